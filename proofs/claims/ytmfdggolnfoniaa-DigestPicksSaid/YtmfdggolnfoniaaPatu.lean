/- A vertex' name; the chapter's example of patches: walked. -/
import Derived.Test.YtmfdggolnfoniaaPatt
import Derived.Test.YtmfdggolnfoniaaGen
namespace Go.Proofs.Ytmfdggolnfoniaa
open Go.RowKit

def vidOf (id : PidV) (i : Int) : VidV := (id, ⟨(i % 256).toNat, by omega⟩)
theorem vidOf_enc (id : PidV) (i : Int) : encV (vidOf id i) = [.int .u8 ((id.1.val : Nat) : Int), .int .u16 ((id.2.val : Nat) : Int), .int .u8 (i % 256)] := by
  have : (((i % 256).toNat : Nat) : Int) = i % 256 := by omega
  simp [encV, vidOf, this]
set_option maxRecDepth 100000 in
set_option maxHeartbeats 1000000 in
theorem vid18_any (id : PidV) (i : Int) (w : World) : Calls Try.prog 23 #[.agg (encP id).toArray, .int .i64 i] w (RetB w (.agg (encV (vidOf id i)).toArray)) := by
  rw [vidOf_enc]
  have hcs : (encP id).toArray = #[.int .u8 ((id.1.val : Nat) : Int), .int .u16 ((id.2.val : Nat) : Int)] := rfl
  rw [hcs]
  generalize ((id.1.val : Nat) : Int) = a
  generalize ((id.2.val : Nat) : Int) = s
  clear hcs
  go_enter Try.func23, Try.ntmps23
  go_wp2
  refine bodyPost_ret (v := .agg #[.int .u8 a, .int .u16 s, .int .u8 (i % 256)]) (by simp [results, Try.results23, go_sem]) rfl ⟨rfl, ?_⟩
  exact ((Below.refl _ _).alloc (Nat.le_refl _) _).alloc (by simp) _
set_option maxRecDepth 100000 in
set_option maxHeartbeats 1000000 in
theorem rvid18_any (id : PidV) (i : Int) (w : World) : Calls Try.prog 24 #[.agg (encP id).toArray, .int .i64 i] w (RetB w (.agg (encV (vidOf id i)).toArray)) := by
  rw [vidOf_enc]
  have hcs : (encP id).toArray = #[.int .u8 ((id.1.val : Nat) : Int), .int .u16 ((id.2.val : Nat) : Int)] := rfl
  rw [hcs]
  generalize ((id.1.val : Nat) : Int) = a
  generalize ((id.2.val : Nat) : Int) = s
  clear hcs
  go_enter Try.func24, Try.ntmps24
  go_wp2
  refine bodyPost_ret (v := .agg #[.int .u8 a, .int .u16 s, .int .u8 (i % 256)]) (by simp [results, Try.results24, go_sem]) rfl ⟨rfl, ?_⟩
  exact ((Below.refl _ _).alloc (Nat.le_refl _) _).alloc (by simp) _

def w18a : PidV := (1, 1)
def w18b : PidV := (1, 2)
def vid0 : VidV := ((0, 0), 0)
def w18x : OpV := (1, vid0, vid0, ByteArray.empty)
def w18y : OpV := (3, (w18a, 0), vid0, ByteArray.empty)
theorem w18_first : makeV18 w18a [w18x, w18y] = (w18a, [], [w18x, w18y]) ∧ makeN18 w18a [w18x, w18y] = 0 := ⟨by kernel_rfl, by kernel_rfl⟩
theorem w18_next : makeV18 w18b [w18y] = (w18b, [w18a], [w18y]) ∧ makeN18 w18b [w18y] = 0 := ⟨by kernel_rfl, by kernel_rfl⟩
theorem w18_good : patB (w18b, [w18a], [w18y]) = true := by kernel_rfl
theorem ops_new (w : World) (l : List OpV) (ho : ∀ o ∈ l, OpV.ok o) : OpsAt (w.alloc (.cells (l.flatMap encO).toArray 54)) (some ⟨w.heap.size, 0, none⟩) l.length l :=
  ⟨rfl, sl_fresh w _ 54 8 l.length _ (flatMap_len encO l (fun o _ => encO_len o)) rfl, ho⟩
set_option maxRecDepth 100000 in
set_option maxHeartbeats 4000000 in
theorem works18 (w : World) : Calls Try.prog 14 #[] w (RetB w (.bool true)) := by
  have HV := Lib.hid (fun u => vid18_any w18a 0 u)
  have HM1 := Lib.hid (fun (u : World) (A : Option Addr) (h : OpsAt u A 2 [w18x, w18y]) => make18_any w18a [w18x, w18y] u A 2 2 (by omega) h)
  have HM2 := Lib.hid (fun (u : World) (A : Option Addr) (h : OpsAt u A 1 [w18y]) => make18_any w18b [w18y] u A 1 1 (by omega) h)
  rw [w18_first.1, w18_first.2] at HM1
  rw [w18_next.1, w18_next.2] at HM2
  go_enter Try.func14, Try.ntmps14
  go_wp2_with fail
  refine (HV.out _).mono ?_
  rintro e w1 ⟨rfl, b1⟩
  go_wp2_with fail
  have HO := ops_new w1 [w18x, w18y] (by simp [OpV.ok, w18x, w18y, maxLen])
  have B1 : Hid (Below w.heap.size w (w1.alloc (.cells ([w18x, w18y].flatMap encO).toArray 54))) := b1.alloc b1.size _
  refine (HM1.out _ _ HO).mono ?_
  rintro e w2 ⟨cs, rfl, pa, b2⟩
  have PA := Lib.hid pa
  have B2 := Lib.hid (B1.out.trans (b2.mono B1.out.size))
  clear pa b2 B1 b1 HO
  obtain ⟨⟨A1, c1, A2, c2, rfl, _, _⟩, _, _⟩ := PA.out
  have HI1 : Hid ((Try.prog.info? 37).map (·.size) = some ((patC w18a A1 0 c1 A2 2 c2).toArray : Array Value).size) := infoPat
  have KA1 : Hid (Blk ((w2.alloc (.cells #[.int .u8 0, .int .u16 0, .slice none 0 0, .slice none 0 0] 37)).setRow w2.heap.size (patC w18a A1 0 c1 A2 2 c2).toArray) w2.heap.size 37 (patC w18a A1 0 c1 A2 2 c2).toArray) := (Blk.new _ _ _).row _
  have BA1 : Hid (Below w2.heap.size w2 ((w2.alloc (.cells #[.int .u8 0, .int .u16 0, .slice none 0 0, .slice none 0 0] 37)).setRow w2.heap.size (patC w18a A1 0 c1 A2 2 c2).toArray)) := below_setRow ((Below.refl _ _).alloc (Nat.le_refl _) _) (Nat.le_refl _) _
  go_upto_region 2 with (first
    | (refine wpList_alloced (allocPat _) ?_)
    | (refine wpList_store_row rfl 37 _ _ (by rfl) w2.heap.size (patC w18a A1 0 c1 A2 2 c2).toArray (by rfl) (by rfl) _ _ (Blk.new _ _ _) HI1.out rfl patC_one ?_))
  generalize ((w2.alloc (.cells #[.int .u8 0, .int .u16 0, .slice none 0 0, .slice none 0 0] 37)).setRow w2.heap.size (patC w18a A1 0 c1 A2 2 c2).toArray) = w3 at *
  have B3 := Lib.hid (B2.out.trans (BA1.out.mono B2.out.size))
  have RA := Lib.hid (patC_pid KA1.out)
  clear PA B2 BA1 HM1 HI1
  generalize w2.heap.size = ga at *
  go_wp2_with (refine wpList_load_mid rfl 33 _ (by rfl) ga 0 (by rfl) _ _ RA.out underPid rfl infoPid ?_)
  refine (HV.out _).mono ?_
  rintro e w4 ⟨rfl, b4⟩
  go_wp2_with fail
  have HO := ops_new w4 [w18y] (by simp [OpV.ok, w18y, maxLen])
  have b5 : Below w3.heap.size w3 (w4.alloc (.cells ([w18y].flatMap encO).toArray 54)) := b4.alloc b4.size _
  have B5 := Lib.hid (B3.out.trans (b5.mono B3.out.size))
  have KA := Lib.hid (KA1.out.ext b5)
  refine (HM2.out _ _ HO).mono ?_
  rintro e w5 ⟨cs, rfl, pb, b6⟩
  have PB := Lib.hid pb
  have KA := Lib.hid (KA.out.ext b6)
  have B6 := Lib.hid (B5.out.trans (b6.mono B5.out.size))
  clear pb b5 b6 b4 B5 HO B3 RA KA1 HM2
  obtain ⟨⟨A3, c3, A4, c4, rfl, P3, _⟩, _, _⟩ := PB.out
  have P3 := Lib.hid P3
  have HI2 : Hid ((Try.prog.info? 37).map (·.size) = some ((patC w18b A3 1 c3 A4 1 c4).toArray : Array Value).size) := infoPat
  have KA2 : Hid (Blk ((w5.alloc (.cells #[.int .u8 0, .int .u16 0, .slice none 0 0, .slice none 0 0] 37)).setRow w5.heap.size (patC w18b A3 1 c3 A4 1 c4).toArray) w5.heap.size 37 (patC w18b A3 1 c3 A4 1 c4).toArray) := (Blk.new _ _ _).row _
  have BA2 : Hid (Below w5.heap.size w5 ((w5.alloc (.cells #[.int .u8 0, .int .u16 0, .slice none 0 0, .slice none 0 0] 37)).setRow w5.heap.size (patC w18b A3 1 c3 A4 1 c4).toArray)) := below_setRow ((Below.refl _ _).alloc (Nat.le_refl _) _) (Nat.le_refl _) _
  go_upto_region 3 with (first
    | (refine wpList_alloced (allocPat _) ?_)
    | (refine wpList_store_row rfl 37 _ _ (by rfl) w5.heap.size (patC w18b A3 1 c3 A4 1 c4).toArray (by rfl) (by rfl) _ _ (Blk.new _ _ _) HI2.out rfl patC_one ?_))
  have KA := Lib.hid (KA.out.ext BA2.out)
  have PB := Lib.hid (PB.out.ext BA2.out)
  have P3 := Lib.hid (P3.out.ext BA2.out)
  have B7 := Lib.hid (B6.out.trans (BA2.out.mono B6.out.size))
  generalize ((w5.alloc (.cells #[.int .u8 0, .int .u16 0, .slice none 0 0, .slice none 0 0] 37)).setRow w5.heap.size (patC w18b A3 1 c3 A4 1 c4).toArray) = w7 at *
  generalize w5.heap.size = gb at *
  obtain ⟨bd, od, x, rfl, hbd, hx, R3⟩ := P3.out.at_ (k := 0) (by decide)
  obtain rfl : w18a = x := by simpa using hx
  have R3 := Lib.hid R3
  have hga : ga < w7.heap.size := KA.out.lt
  have hgb : gb < w7.heap.size := KA2.out.lt
  have a0 : w7.cell? ⟨ga, 0, none⟩ = some (.int .u8 1) := KA.out.cell 0
  have a1 : w7.cell? ⟨ga, 1, none⟩ = some (.int .u16 1) := KA.out.cell 1
  have a2 : w7.cell? ⟨ga, 2, none⟩ = some (.slice A1 0 c1) := KA.out.cell 2
  have b0 : w7.cell? ⟨gb, 0, none⟩ = some (.int .u8 1) := KA2.out.cell 0
  have b1 : w7.cell? ⟨gb, 1, none⟩ = some (.int .u16 2) := KA2.out.cell 1
  have b2 : w7.cell? ⟨gb, 2, none⟩ = some (.slice (some ⟨bd, od, none⟩) 1 c3) := KA2.out.cell 2
  have b3 : w7.cell? ⟨gb, 3, none⟩ = some (.slice A4 1 c4) := KA2.out.cell 3
  have d0 : w7.cell? ⟨bd, od, none⟩ = some (.int .u8 1) := R3.out 0 _ rfl
  have d1 : w7.cell? ⟨bd, od + 1, none⟩ = some (.int .u16 1) := R3.out 1 _ rfl
  have xa0 := ext_cell a0 hga
  have xa1 := ext_cell a1 hga
  have xa2 := ext_cell a2 hga
  have xb0 := ext_cell b0 hgb
  have xb1 := ext_cell b1 hgb
  have xb2 := ext_cell b2 hgb
  have xb3 := ext_cell b3 hgb
  have xd0 := ext_cell d0 hbd
  have xd1 := ext_cell d1 hbd
  have HG := Lib.hid (fun z : Ext w7 => good18_any (w18b, [w18a], [w18y]) z.w _ (PB.out.ext z.h))
  rw [w18_good] at HG
  have EQ : ∀ u : World, (binOp .eql 33 (.agg #[.int .u8 1, .int .u16 1]) (.agg #[.int .u8 1, .int .u16 1])).run Try.prog u = .ok (.bool true) u := fun u => eqlP w18a w18a u
  clear KA KA2 PB P3 R3 hx a0 a1 a2 b0 b1 b2 b3 d0 d1 BA2 HI2 B6 HV
  refine wp_region_ext mixedS (by kernel_rfl) ?_
  repeat (first | go_big_quiet_skip | go_big_quiet_step ((go_at_call 15; exact ext_call (HG.out _))))
  refine wpQuiet_nil ?_
  rintro _ ⟨z, rfl⟩
  have W := Lib.hid z.h
  generalize z.w = w8 at *
  clear xa0 xa1 xa2 xb0 xb1 xb2 xb3 xd0 xd1
  go_wp2
  go_ret
  exact ⟨rfl, B7.out.trans (W.out.mono B7.out.size)⟩
end Go.Proofs.Ytmfdggolnfoniaa
