/- A patch's fingerprint. -/
import Derived.Test.YtihggkmjalofiaaDoorPcds
import Derived.Test.YtihggkmjalofiaaDoorShag
namespace Go.Proofs.YtihggkmjalofiaaDoor
open Go.RowKit

/-- a patch's fingerprint -/
def fpB (p : PatV) : List UInt8 := if patB p = true then sumS kS hS (patBytes p) else List.replicate 32 0
theorem fpB_len (p : PatV) : (fpB p).length = 32 := by
  unfold fpB
  split
  · exact sumS_len _ _ _
  · rw [List.length_replicate]
theorem zero32 : bytesS (List.replicate 32 0) = #[.int .u8 0, .int .u8 0, .int .u8 0, .int .u8 0, .int .u8 0, .int .u8 0, .int .u8 0, .int .u8 0, .int .u8 0, .int .u8 0, .int .u8 0, .int .u8 0, .int .u8 0, .int .u8 0, .int .u8 0, .int .u8 0, .int .u8 0, .int .u8 0, .int .u8 0, .int .u8 0, .int .u8 0, .int .u8 0, .int .u8 0, .int .u8 0, .int .u8 0, .int .u8 0, .int .u8 0, .int .u8 0, .int .u8 0, .int .u8 0, .int .u8 0, .int .u8 0] := by kernel_rfl
set_option maxRecDepth 100000 in
set_option maxHeartbeats 8000000 in
theorem fpatch_any (p : PatV) (w : World) (cs : List Value) (hp : PatAt w cs p) (hK : ShaK w) (hB : ShaB w) : Calls Tryd.prog 6 #[.agg cs.toArray] w (RetB w (.agg (bytesS (fpB p)))) := by
  have hp0 := hp
  obtain ⟨⟨A, c, A', c', rfl, _, _⟩, _, _⟩ := hp0
  have K0 : Hid (Blk (w.alloc (.cells (patC p.1 A p.2.1.length c A' p.2.2.length c').toArray 33)) w.heap.size 33 (patC p.1 A p.2.1.length c A' p.2.2.length c').toArray) := Blk.new _ _ _
  have B0 : Hid (Below w.heap.size w (w.alloc (.cells (patC p.1 A p.2.1.length c A' p.2.2.length c').toArray 33))) := below_new _ _
  have P0 := Lib.hid (hp.ext B0.out)
  have HK0 := Lib.hid (shaK_ext hK B0.out)
  have HB0 := Lib.hid (shaB_ext hB B0.out)
  clear hp hK hB
  go_enter Tryd.func6, Tryd.ntmps6
  have hs2 : (w.alloc (.cells (patC p.1 A p.2.1.length c A' p.2.2.length c').toArray 33)).heap.size = w.heap.size + 1 := by simp only [World.alloc, Array.size_push]
  have K2a : Hid (Blk ((w.alloc (.cells (patC p.1 A p.2.1.length c A' p.2.2.length c').toArray 33)).alloc (.cells #[Value.int IntKind.u8 0, Value.int IntKind.u8 0, Value.int IntKind.u8 0, Value.int IntKind.u8 0, Value.int IntKind.u8 0, Value.int IntKind.u8 0, Value.int IntKind.u8 0, Value.int IntKind.u8 0, Value.int IntKind.u8 0, Value.int IntKind.u8 0, Value.int IntKind.u8 0, Value.int IntKind.u8 0, Value.int IntKind.u8 0, Value.int IntKind.u8 0, Value.int IntKind.u8 0, Value.int IntKind.u8 0, Value.int IntKind.u8 0, Value.int IntKind.u8 0, Value.int IntKind.u8 0, Value.int IntKind.u8 0, Value.int IntKind.u8 0, Value.int IntKind.u8 0, Value.int IntKind.u8 0, Value.int IntKind.u8 0, Value.int IntKind.u8 0, Value.int IntKind.u8 0, Value.int IntKind.u8 0, Value.int IntKind.u8 0, Value.int IntKind.u8 0, Value.int IntKind.u8 0, Value.int IntKind.u8 0, Value.int IntKind.u8 0] 25)) (w.heap.size + 1) 25 #[Value.int IntKind.u8 0, Value.int IntKind.u8 0, Value.int IntKind.u8 0, Value.int IntKind.u8 0, Value.int IntKind.u8 0, Value.int IntKind.u8 0, Value.int IntKind.u8 0, Value.int IntKind.u8 0, Value.int IntKind.u8 0, Value.int IntKind.u8 0, Value.int IntKind.u8 0, Value.int IntKind.u8 0, Value.int IntKind.u8 0, Value.int IntKind.u8 0, Value.int IntKind.u8 0, Value.int IntKind.u8 0, Value.int IntKind.u8 0, Value.int IntKind.u8 0, Value.int IntKind.u8 0, Value.int IntKind.u8 0, Value.int IntKind.u8 0, Value.int IntKind.u8 0, Value.int IntKind.u8 0, Value.int IntKind.u8 0, Value.int IntKind.u8 0, Value.int IntKind.u8 0, Value.int IntKind.u8 0, Value.int IntKind.u8 0, Value.int IntKind.u8 0, Value.int IntKind.u8 0, Value.int IntKind.u8 0, Value.int IntKind.u8 0]) := by rw [Hid, ← hs2]; exact Blk.new _ _ _
  have B2a : Hid (Below (w.alloc (.cells (patC p.1 A p.2.1.length c A' p.2.2.length c').toArray 33)).heap.size (w.alloc (.cells (patC p.1 A p.2.1.length c A' p.2.2.length c').toArray 33)) ((w.alloc (.cells (patC p.1 A p.2.1.length c A' p.2.2.length c').toArray 33)).alloc (.cells #[Value.int IntKind.u8 0, Value.int IntKind.u8 0, Value.int IntKind.u8 0, Value.int IntKind.u8 0, Value.int IntKind.u8 0, Value.int IntKind.u8 0, Value.int IntKind.u8 0, Value.int IntKind.u8 0, Value.int IntKind.u8 0, Value.int IntKind.u8 0, Value.int IntKind.u8 0, Value.int IntKind.u8 0, Value.int IntKind.u8 0, Value.int IntKind.u8 0, Value.int IntKind.u8 0, Value.int IntKind.u8 0, Value.int IntKind.u8 0, Value.int IntKind.u8 0, Value.int IntKind.u8 0, Value.int IntKind.u8 0, Value.int IntKind.u8 0, Value.int IntKind.u8 0, Value.int IntKind.u8 0, Value.int IntKind.u8 0, Value.int IntKind.u8 0, Value.int IntKind.u8 0, Value.int IntKind.u8 0, Value.int IntKind.u8 0, Value.int IntKind.u8 0, Value.int IntKind.u8 0, Value.int IntKind.u8 0, Value.int IntKind.u8 0] 25))) := below_new _ _
  clear hs2
  go_upto_region 1 with fail
  have P1 := Lib.hid (P0.out.ext B2a.out)
  have K1 := Lib.hid (K0.out.ext B2a.out)
  have HK1 := Lib.hid (shaK_ext HK0.out B2a.out)
  have HB1 := Lib.hid (shaB_ext HB0.out B2a.out)
  have B1 := Lib.hid (B0.out.trans (B2a.out.mono B0.out.size))
  have GL : Hid (w.heap.size ≤ w.heap.size + 1) := Nat.le_succ _
  generalize ((w.alloc (.cells (patC p.1 A p.2.1.length c A' p.2.2.length c').toArray 33)).alloc (.cells #[Value.int IntKind.u8 0, Value.int IntKind.u8 0, Value.int IntKind.u8 0, Value.int IntKind.u8 0, Value.int IntKind.u8 0, Value.int IntKind.u8 0, Value.int IntKind.u8 0, Value.int IntKind.u8 0, Value.int IntKind.u8 0, Value.int IntKind.u8 0, Value.int IntKind.u8 0, Value.int IntKind.u8 0, Value.int IntKind.u8 0, Value.int IntKind.u8 0, Value.int IntKind.u8 0, Value.int IntKind.u8 0, Value.int IntKind.u8 0, Value.int IntKind.u8 0, Value.int IntKind.u8 0, Value.int IntKind.u8 0, Value.int IntKind.u8 0, Value.int IntKind.u8 0, Value.int IntKind.u8 0, Value.int IntKind.u8 0, Value.int IntKind.u8 0, Value.int IntKind.u8 0, Value.int IntKind.u8 0, Value.int IntKind.u8 0, Value.int IntKind.u8 0, Value.int IntKind.u8 0, Value.int IntKind.u8 0, Value.int IntKind.u8 0] 25)) = w2 at *
  generalize w.heap.size + 1 = g2 at *
  obtain ⟨g1, hg1⟩ : ∃ g1, g1 = w.heap.size := ⟨_, rfl⟩
  rw [← hg1] at K1 ⊢
  replace hg1 := Lib.hid hg1
  replace K2a : Hid (Blk w2 g2 25 (bytesS (List.replicate 32 0))) := K2a
  clear P0 K0 HK0 HB0 B0 B2a
  have HE := Lib.hid (encode19_any p w2 _ P1.out)
  cases hpb : patB p
  · go_wp2_with (refine wpList_load_row rfl 33 _ (by rfl) g1 (by rfl) _ _ _ _ K1.out underPat rfl infoPat ?_)
    refine HE.out.mono ?_
    rintro e w3 ⟨-, h4⟩
    obtain ⟨rfl, b4⟩ := h4 hpb
    have K3 : Hid (Blk w3 g2 25 (bytesS (List.replicate 32 0))) := K2a.out.ext b4
    have B3 := Lib.hid (B1.out.trans (b4.mono B1.out.size))
    have KN : Hid (Blk (w3.setRow g2 #[.int .u8 0, .int .u8 0, .int .u8 0, .int .u8 0, .int .u8 0, .int .u8 0, .int .u8 0, .int .u8 0, .int .u8 0, .int .u8 0, .int .u8 0, .int .u8 0, .int .u8 0, .int .u8 0, .int .u8 0, .int .u8 0, .int .u8 0, .int .u8 0, .int .u8 0, .int .u8 0, .int .u8 0, .int .u8 0, .int .u8 0, .int .u8 0, .int .u8 0, .int .u8 0, .int .u8 0, .int .u8 0, .int .u8 0, .int .u8 0, .int .u8 0, .int .u8 0]) g2 25 #[.int .u8 0, .int .u8 0, .int .u8 0, .int .u8 0, .int .u8 0, .int .u8 0, .int .u8 0, .int .u8 0, .int .u8 0, .int .u8 0, .int .u8 0, .int .u8 0, .int .u8 0, .int .u8 0, .int .u8 0, .int .u8 0, .int .u8 0, .int .u8 0, .int .u8 0, .int .u8 0, .int .u8 0, .int .u8 0, .int .u8 0, .int .u8 0, .int .u8 0, .int .u8 0, .int .u8 0, .int .u8 0, .int .u8 0, .int .u8 0, .int .u8 0, .int .u8 0]) := K3.out.row _
    have BN := Lib.hid (below_setRow B3.out GL.out #[.int .u8 0, .int .u8 0, .int .u8 0, .int .u8 0, .int .u8 0, .int .u8 0, .int .u8 0, .int .u8 0, .int .u8 0, .int .u8 0, .int .u8 0, .int .u8 0, .int .u8 0, .int .u8 0, .int .u8 0, .int .u8 0, .int .u8 0, .int .u8 0, .int .u8 0, .int .u8 0, .int .u8 0, .int .u8 0, .int .u8 0, .int .u8 0, .int .u8 0, .int .u8 0, .int .u8 0, .int .u8 0, .int .u8 0, .int .u8 0, .int .u8 0, .int .u8 0])
    clear b4 h4 HE K1 P1 HK1 HB1 B1 K2a
    go_wp2_with (refine wpList_store_row rfl 25 _ _ (by rfl) g2 #[.int .u8 0, .int .u8 0, .int .u8 0, .int .u8 0, .int .u8 0, .int .u8 0, .int .u8 0, .int .u8 0, .int .u8 0, .int .u8 0, .int .u8 0, .int .u8 0, .int .u8 0, .int .u8 0, .int .u8 0, .int .u8 0, .int .u8 0, .int .u8 0, .int .u8 0, .int .u8 0, .int .u8 0, .int .u8 0, .int .u8 0, .int .u8 0, .int .u8 0, .int .u8 0, .int .u8 0, .int .u8 0, .int .u8 0, .int .u8 0, .int .u8 0, .int .u8 0] (by rfl) (by rfl) _ _ K3.out (by rw [infoB32]; rfl) (by rw [bytesS_size, List.length_replicate]; rfl) (by rw [← zero32]; exact bytesS_one _) ?_)
    refine bodyPost_ret (results_cellS rfl _ _ g2 _ #[.int .u8 0, .int .u8 0, .int .u8 0, .int .u8 0, .int .u8 0, .int .u8 0, .int .u8 0, .int .u8 0, .int .u8 0, .int .u8 0, .int .u8 0, .int .u8 0, .int .u8 0, .int .u8 0, .int .u8 0, .int .u8 0, .int .u8 0, .int .u8 0, .int .u8 0, .int .u8 0, .int .u8 0, .int .u8 0, .int .u8 0, .int .u8 0, .int .u8 0, .int .u8 0, .int .u8 0, .int .u8 0, .int .u8 0, .int .u8 0, .int .u8 0, .int .u8 0] _ rfl KN.out Tryd.underlying25 rfl (by rw [infoB32]; rfl)) rfl ?_
    unfold fpB
    rw [if_neg (by rw [hpb]; exact Bool.false_ne_true)]
    rw [zero32]
    exact ⟨rfl, BN.out⟩
  · have hl := patBytes_len hpb
    go_wp2_with (refine wpList_load_row rfl 33 _ (by rfl) g1 (by rfl) _ _ _ _ K1.out underPat rfl infoPat ?_)
    refine HE.out.mono ?_
    rintro e w3 ⟨h4, -⟩
    obtain ⟨v, rfl, own, b4⟩ := h4 hpb
    obtain ⟨A5, c5, rfl, ba⟩ := own_bytes own rfl
    have K3 : Hid (Blk w3 g2 25 (bytesS (List.replicate 32 0))) := K2a.out.ext b4
    have B3 := Lib.hid (B1.out.trans (b4.mono B1.out.size))
    have HK3 := Lib.hid (shaK_ext HK1.out b4)
    have HB3 := Lib.hid (shaB_ext HB1.out b4)
    have H3 := Lib.hid ba
    clear b4 h4 HE K1 P1 HK1 HB1 B1 K2a own ba
    obtain ⟨l, hpe⟩ : ∃ l, l = patBytes p := ⟨_, rfl⟩
    rw [← hpe] at H3 hl ⊢
    have HPE : Hid (patBytes p = l) := hpe.symm
    clear hpe
    go_wp2_with fail
    have BL := Lib.hid (below_new w3 (.cells #[.slice A5 l.length c5] 43))
    refine (sum_any l _ w3.heap.size 1 A5 l.length c5 ((Blk.new w3 43 #[.slice A5 l.length c5]).cell 0) (by rw [World.alloc]; simp only [Array.size_push]; omega) (H3.out.ext BL.out) (by omega) (shaK_ext HK3.out BL.out) (shaB_ext HB3.out BL.out)).mono ?_
    rintro e w4 ⟨rfl, b5⟩
    have b4 := Lib.hid (BL.out.trans (b5.mono BL.out.size))
    have B4 := Lib.hid (B3.out.trans (b4.out.mono B3.out.size))
    have K4 := Lib.hid (K3.out.ext b4.out)
    have BN := Lib.hid (below_setRow B4.out GL.out (bytesS (sumS kS hS l)))
    clear b5 BL B3 K3 H3 HK3 HB3 b4
    go_wp2_with (refine wpList_store_row rfl 25 _ _ (by rfl) g2 (bytesS (sumS kS hS l)) (by rfl) (by rfl) _ _ K4.out (by rw [infoB32, bytesS_size, sumS_len]) (by rw [bytesS_size, bytesS_size, sumS_len, List.length_replicate]) (bytesS_one _) ?_)
    refine bodyPost_ret (results_cellS rfl _ _ g2 _ (bytesS (sumS kS hS l)) _ rfl (K4.out.row _) Tryd.underlying25 rfl (by rw [infoB32, bytesS_size, sumS_len])) rfl ?_
    unfold fpB
    rw [if_pos hpb, HPE.out]
    exact ⟨rfl, BN.out⟩
end Go.Proofs.YtihggkmjalofiaaDoor
