/- Patches in one piece, with the sum: walked; what was read is few. -/
import Derived.Test.YtihggkmjalofiaaGreatDoorImgd
import Derived.Test.YtihggkmjalofiaaGreatDoorLst
import Derived.Test.YtihggkmjalofiaaGreatDoorPcds
import Derived.Test.YtihggkmjalofiaaGreatDoorBufs
import Derived.Test.YtihggkmjalofiaaGreatDoorGen
import Derived.Test.YtihggkmjalofiaaGreatDoorIdxw
namespace Go.Proofs.YtihggkmjalofiaaGreatDoor
open Go.RowKit

/-- what is read had just these bytes -/
theorem read_told {c : List UInt8} {ps : List PatV} (h : readI c = (ps, 0)) : c = vbytes ps.length ++ ps.flatMap patText ∧ ∀ p ∈ ps, patB p = true := by
  unfold readI at h
  obtain ⟨qs, l', e, hr⟩ : ∃ x y z, imgRd c.length c 0 = (x, y, z) := ⟨_, _, _, rfl⟩
  rw [hr] at h
  dsimp only at h
  by_cases he : rEnd l' e = 0
  · rw [if_pos he] at h
    obtain rfl : qs = ps := congrArg Prod.fst h
    have he2 : e = 0 ∧ l' = [] := by
      unfold rEnd at he
      by_cases h1 : e = 0 ∧ 0 < l'.length
      · rw [if_pos h1] at he; cases he
      · rw [if_neg h1] at he
        exact ⟨he, List.length_eq_zero_iff.1 (by omega)⟩
    obtain ⟨rfl, rfl⟩ := he2
    unfold imgRd bindR at hr
    obtain ⟨n, l1, e1, h1⟩ : ∃ x y z, rNum c.length c 0 = (x, y, z) := ⟨_, _, _, rfl⟩
    rw [h1] at hr
    obtain ⟨rfl, a2, a3, a4⟩ := told_pats n l1 e1 qs [] hr
    obtain ⟨_, b2, _⟩ := told_num _ h1
    rw [List.append_nil] at a2
    exact ⟨by rw [b2, a2, a3], a4⟩
  · rw [if_neg he] at h
    exact absurd (congrArg Prod.snd h) he
theorem opBytes_pos (o : OpV) : 1 ≤ (opBytes o).length := by unfold opBytes; simp
theorem pat_ops_le (p : PatV) : p.2.2.length + 2 ≤ (patBytes p).length := by
  have h : ∀ os : List OpV, os.length ≤ (os.flatMap opBytes).length := by
    intro os
    induction os with
    | nil => simp
    | cons o os ih =>
      have := opBytes_pos o
      rw [List.flatMap_cons, List.length_append, List.length_cons]
      omega
  have h1 := h p.2.2
  have h2 := vbytes_pos p.1.2.val
  have h3 := vbytes_pos p.2.2.length
  unfold patBytes
  simp only [List.length_append, List.length_cons] at h1 h2 h3 ⊢
  omega
theorem deps_le_ops {p : PatV} (h : patB p = true) : p.2.1.length ≤ 1 + 2 * p.2.2.length := by
  rw [(patB_parts h).1]
  exact depsV_le _ _
theorem texts_few : ∀ ps : List PatV, (∀ p ∈ ps, patB p = true) → 4 * ps.length ≤ (ps.flatMap patText).length ∧ depsN ps ≤ 3 * (ps.flatMap patText).length
  | [], _ => by simp [depsN]
  | p :: ps, h => by
    obtain ⟨h1, h2⟩ := texts_few ps fun q hq => h q (by simp [hq])
    have hg := h p (by simp)
    have h3 := pat_ops_le p
    have h4 := deps_le_ops hg
    have h5 := (patB_parts hg).2.1
    have h6 := vbytes_pos (patBytes p).length
    have e1 : (patText p).length = (vbytes (patBytes p).length).length + (patBytes p).length := by unfold patText; rw [List.length_append]
    have e2 : depsN (p :: ps) = p.2.1.length + depsN ps := by unfold depsN; rw [List.map_cons, List.sum_cons]
    rw [List.flatMap_cons, List.length_append, List.length_cons, e2]
    omega
theorem imgB_same_len {ps : List PatV} (h : IdxOk ps) : (imgB ps).length = (vbytes ps.length ++ ps.flatMap patText).length := by
  unfold imgB
  rw [List.length_append, List.length_append, ((ordP_perm h).flatMap_right patText).length_eq]
theorem read_few {c : List UInt8} {ps : List PatV} (h : readI c = (ps, 0)) (hc : c.length ≤ 36000) : ps.length ≤ 9000 ∧ depsN ps ≤ 900000 ∧ (∀ p ∈ ps, p.2.1.length ≤ 100000 ∧ p.2.2.length ≤ 100000) ∧ (okI ps = true → (imgB ps).length ≤ 800000) := by
  obtain ⟨h1, h2⟩ := read_told h
  obtain ⟨h3, h4⟩ := texts_few ps h2
  have h5 := congrArg List.length h1
  rw [List.length_append] at h5
  refine ⟨by omega, by omega, fun p hp => ?_, fun ho => ?_⟩
  · have h6 := (patB_parts (h2 p hp)).2.2.1
    have h7 := deps_le_ops (h2 p hp)
    omega
  · rw [imgB_same_len (okI_iff.1 ho), ← h1]
    omega
theorem sliceB32 (g : Nat) (w : World) : (Instr.sliceAt 37 (.pointer (some ⟨g, 0, none⟩)) none none none).run Tryz.prog w = .ok (.slice (some ⟨g, 0, none⟩) 32 32) w := by kernel_rfl
theorem sl_b32 {w : World} {g : Nat} {s : List UInt8} (hs : s.length = 32) (h : Blk w g 37 (bytesS s)) : Sl w w.heap.size 1 (some ⟨g, 0, none⟩) 32 (encB s) := by
  refine ⟨by rw [encB_lenS, hs], fun _ => ⟨g, 0, rfl, h.lt, fun j hj => ?_⟩⟩
  rw [Nat.zero_add, h.cell j]
  unfold bytesS
  rw [List.getElem?_toArray]
def EncIRet (w : World) (l : List PatV) (e : Ending) (w' : World) : Prop :=
  Below w.heap.size w w' ∧ ((okI l = true ∧ ∃ v, e = .returned (.tuple #[v, .int .i64 0]) ∧ w'.ownsRow w.heap.size 5 1 v (imgS l).length (encB (imgS l))) ∨ (okI l = false ∧ e = .returned (.tuple #[.slice none 0 0, .int .i64 1])))
set_option maxRecDepth 100000 in
set_option maxHeartbeats 8000000 in
theorem enc53_any {w : World} {A : Option Addr} {n c : Nat} {l : List PatV} (h : PatsAt w A n l) (hm : n ≤ 9000) (hd : depsN l ≤ 900000) (hq : ∀ p ∈ l, p.2.1.length ≤ 100000 ∧ p.2.2.length ≤ 100000) (hB : okI l = true → (imgB l).length ≤ 800000) (hK : ShaK w) (hSB : ShaB w) :
    Calls Tryz.prog 29 #[.slice A n c] w (EncIRet w l) := by
  have HP := Lib.hid (plain53_any (c := c) h hm hd hq hB)
  have HBL := Lib.hid hB
  have HK := Lib.hid hK
  have HSB := Lib.hid hSB
  clear h hd hq hB hK hSB
  go_enter Tryz.func29, Tryz.ntmps29
  go_wp2_with fail
  refine HP.out.mono ?_
  rintro e w2 ⟨b2, h2⟩
  have B2 := Lib.hid b2
  have HK2 := Lib.hid (shaK_ext HK.out b2)
  have HS2 := Lib.hid (shaB_ext HSB.out b2)
  clear b2 HP HK HSB
  rcases h2 with ⟨hok, v, rfl, o2⟩ | ⟨hno, rfl⟩
  · have hbl := HBL.out hok
    have HOK := Lib.hid hok
    obtain ⟨L, hL⟩ : ∃ L, L = imgB l := ⟨_, rfl⟩
    have ES : Hid (imgS l = L ++ sumS kS hS L) := by rw [hL]; rfl
    rw [← hL] at o2 hbl
    clear hL hok HBL
    obtain ⟨A2, c2, rfl, ba⟩ := own_bytes o2 rfl
    have BA := Lib.hid ba
    have O2 := Lib.hid o2
    clear ba o2
    go_wp2_with fail
    have BL := Lib.hid (below_new w2 (.cells #[.slice A2 L.length c2] 46))
    refine (sum_any L _ w2.heap.size 1 A2 L.length c2 ((Blk.new w2 46 #[.slice A2 L.length c2]).cell 0) (by rw [World.alloc]; simp only [Array.size_push]; omega) (BA.out.ext BL.out) (by omega) (shaK_ext HK2.out BL.out) (shaB_ext HS2.out BL.out)).mono ?_
    rintro e w3 ⟨rfl, b3⟩
    have b23 := BL.out.trans (b3.mono BL.out.size)
    have B3 := Lib.hid (B2.out.trans (b23.mono B2.out.size))
    have O3 := Lib.hid (own_ext O2.out b23)
    have hsl := sumS_len kS hS L
    obtain ⟨S, hS⟩ : ∃ S, S = sumS kS hS L := ⟨_, rfl⟩
    rw [← hS] at ES hsl ⊢
    clear b3 b23 BL O2 B2 HK2 HS2 BA hS
    have KZ : Hid (Blk (w3.alloc (.cells (bytesS (List.replicate 32 0)) 37)) w3.heap.size 37 (bytesS (List.replicate 32 0))) := Blk.new _ _ _
    have KS : Hid (Blk ((w3.alloc (.cells (bytesS (List.replicate 32 0)) 37)).setRow w3.heap.size (bytesS S)) w3.heap.size 37 (bytesS S)) := KZ.out.row _
    have BN : Hid (Below w3.heap.size w3 ((w3.alloc (.cells (bytesS (List.replicate 32 0)) 37)).setRow w3.heap.size (bytesS S))) := below_setRow (below_new _ _) (Nat.le_refl _) _
    go_upto_region 5 with (first
      | (refine wpList_alloced (allocB32 _) ?_)
      | (refine wpList_store_row rfl 37 _ _ (by rfl) w3.heap.size (bytesS S) (by rfl) (by rfl) _ _ KZ.out (by rw [infoB32, bytesS_size, hsl]) (by rw [bytesS_size, bytesS_size, hsl, List.length_replicate]) (bytesS_one _) ?_))
    generalize ((w3.alloc (.cells (bytesS (List.replicate 32 0)) 37)).setRow w3.heap.size (bytesS S)) = w4 at *
    have O4 := Lib.hid (own_ext O3.out BN.out)
    have B4 := Lib.hid (B3.out.trans (BN.out.mono B3.out.size))
    have S4 := Lib.hid (sl_b32 hsl KS.out)
    have SC := Lib.hid (fun u => sliceB32 w3.heap.size u)
    generalize w3.heap.size = gs at *
    clear KZ BN O3 B3 KS
    have hbs := B4.out.size
    go_wp2_with (first
      | ((with_reducible refine wpList_slB ?_ ?_ ?_ ?_ (SC.out _) ?_); rfl; rfl; rfl; rfl)
      | (at_builtin; refine wpList_cat byteSl O4.out S4.out (encB_one _) hbs (by omega) (by unfold maxLen; omega) (by rfl) (by rfl) ?_; intro v5 w5 own5 bel5))
    have O5 : Hid (w5.ownsRow w.heap.size 5 1 v5 (imgS l).length (encB (imgS l))) := by
      rw [Hid, ES.out, encB_appS, List.length_append, hsl]; exact own5
    have B5 := Lib.hid (B4.out.trans bel5)
    clear own5 bel5
    refine bodyPost_ret (v := .tuple #[v5, .int .i64 0]) ?_ rfl ⟨B5.out, .inl ⟨HOK.out, v5, rfl, O5.out⟩⟩
    simp [results, Tryz.results29, go_sem]
  · have HNO := Lib.hid hno
    clear hno
    go_wp2
    refine bodyPost_ret (v := .tuple #[.slice none 0 0, .int .i64 1]) ?_ rfl ⟨B2.out, .inr ⟨HNO.out, rfl⟩⟩
    simp [results, Tryz.results29, go_sem]
end Go.Proofs.YtihggkmjalofiaaGreatDoor

/- A sum's digits. -/
namespace Go.Proofs.YtihggkmjalofiaaGreatDoor
open Go.RowKit

theorem under32F : Tryz.prog.underlying 37 = some (.array 32 5) := by kernel_rfl
theorem sizeOfF8 (w : World) : (sizeOf 5).run Tryz.prog w = .ok 1 w := by kernel_rfl
theorem isAggF8 (w : World) : (isAgg 5).run Tryz.prog w = .ok false w := by kernel_rfl
end Go.Proofs.YtihggkmjalofiaaGreatDoor

/- A fingerprint's first digits; the chapter's example. -/
namespace Go.Proofs.YtihggkmjalofiaaGreatDoor
open Go.RowKit

def intsF (b : List UInt8) : List Int := b.map fun x => ((x.toNat : Nat) : Int)
theorem bytesS_ints (b : List UInt8) : bytesS b = ((intsF b).map (Value.int .u8)).toArray := by
  unfold bytesS intsF
  congr 1
  induction b with
  | nil => rfl
  | cons x xs ih =>
    rw [List.map_cons, List.map_cons, ← ih]
    rfl
theorem intsF_inj {a b : List UInt8} : intsF a = intsF b ↔ a = b := by
  refine ⟨fun h => ?_, fun h => by rw [h]⟩
  unfold intsF at h
  induction a generalizing b with
  | nil => cases b with
    | nil => rfl
    | cons y ys => simp at h
  | cons x xs ih => cases b with
    | nil => simp at h
    | cons y ys =>
      simp only [List.map_cons, List.cons.injEq] at h
      have hxy : x = y := UInt8.toNat_inj.1 (by have := h.1; omega)
      rw [hxy, ih h.2]
theorem underU8 : Tryz.prog.underlying 5 = some (.int .u8) := by kernel_rfl
theorem neqF (a b : List UInt8) (ha : a.length = 32) (hb : b.length = 32) (w : World) : (binOp .neq 37 (.agg (bytesS a)) (.agg (bytesS b))).run Tryz.prog w = .ok (.bool (!decide (a = b))) w := by
  rw [bytesS_ints, bytesS_ints, run_neq_ints under32F underU8 isAggF8 sizeOfF8 _ _ (by unfold intsF; rw [List.length_map, ha]) (by unfold intsF; rw [List.length_map, hb])]
  simp only [intsF_inj]
end Go.Proofs.YtihggkmjalofiaaGreatDoor
