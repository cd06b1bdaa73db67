/- Names of vertices: the chapter's example. -/
import Derived.Test.YtmfdggolnfoniaaDoorVidf
import Derived.Test.YtmfdggolnfoniaaDoorVidg
namespace Go.Proofs.YtmfdggolnfoniaaDoor
open Go.RowKit

def vtextL (x : VidV) : List UInt8 := vidText x.1.1.val x.1.2.val x.2.val
def vokV (x : VidV) : Bool := vidOk ((x.1.1.val : Nat) : Int) ((x.1.2.val : Nat) : Int) ((x.2.val : Nat) : Int)
theorem goodV (x : VidV) (w : World) : Calls Tryd.prog 25 #[.agg (encV x).toArray] w (RetB w (.bool (vokV x))) :=
  vgood_any _ _ _ w ⟨by omega, by have := x.1.1.isLt; omega⟩ ⟨by omega, by have := x.1.2.isLt; omega⟩ ⟨by omega, by have := x.2.isLt; omega⟩
theorem rgoodV (x : VidV) (w : World) : Calls Tryd.prog 26 #[.agg (encV x).toArray] w (RetB w (.bool (vokV x))) :=
  rvgood_any _ _ _ w ⟨by omega, by have := x.1.1.isLt; omega⟩ ⟨by omega, by have := x.1.2.isLt; omega⟩ ⟨by omega, by have := x.2.isLt; omega⟩
theorem textV (x : VidV) (w : World) (h : TabOk w) : Calls Tryd.prog 21 #[.agg (encV x).toArray] w (RetB w (.string ⟨(vtextL x).toArray⟩)) := vtext_any _ _ _ x.1.1.isLt x.1.2.isLt x.2.isLt w h
theorem rtextV (x : VidV) (w : World) : Calls Tryd.prog 30 #[.agg (encV x).toArray] w (RetB w (.string ⟨(vtextL x).toArray⟩)) := rvtext_any _ _ _ x.1.1.isLt x.1.2.isLt x.2.isLt w
theorem vpackB (x : VidV) (w : World) : Calls Tryd.prog 23 #[.agg (encV x).toArray] w (RetB w (.int .u32 (keyV x))) := (vpackG x w).mono fun _ _ => RetB.ofG
theorem keyV_bd (x : VidV) : 0 ≤ keyV x ∧ keyV x < 4294967296 := by
  have := keyP_bd x.1
  have := x.2.isLt
  unfold keyV; omega
theorem keyV_of (u : Int) (h : 0 ≤ u ∧ u < 4294967296) : ∃ x : VidV, keyV x = u := by
  refine ⟨((⟨(u / 256 / 65536).toNat, by omega⟩, ⟨(u / 256 % 65536).toNat, by omega⟩), ⟨(u % 256).toNat, by omega⟩), ?_⟩
  unfold keyV keyP packV
  simp only
  omega
theorem vunpackB (x : VidV) (w : World) : Calls Tryd.prog 22 #[.int .u32 (keyV x)] w (RetB w (.agg (encV x).toArray)) := by
  have h := vunpack_any (keyV x) (keyV_bd x) w
  have h1 := x.1.1.isLt
  have h2 := x.1.2.isLt
  have h3 := x.2.isLt
  have e1 : keyV x / 256 / 65536 = ((x.1.1.val : Nat) : Int) := by unfold keyV keyP packV; omega
  have e2 : keyV x / 256 % 65536 = ((x.1.2.val : Nat) : Int) := by unfold keyV keyP packV; omega
  have e3 : keyV x % 256 = ((x.2.val : Nat) : Int) := by unfold keyV keyP packV; omega
  rw [e1, e2, e3] at h
  exact h
theorem vidText_inj {a n m a' n' m' : Nat} (h : vidText a n m = vidText a' n' m') : a = a' ∧ n = n' ∧ m = m' := by
  have e := congrArg dotsL h
  rw [dotsL_vid, dotsL_vid] at e
  simp only [List.cons.injEq, and_true] at e
  exact ⟨itoa_inj e.1, itoa_inj e.2.1, itoa_inj e.2.2⟩
theorem text3174 : vidText 3 17 4 = [51, 46, 49, 55, 46, 52] := by
  unfold vidText
  have e2 : Lib.itoa ((4 : Nat) : Int) = [52] := by rw [Lib.itoa_nonneg, Lib.decDigits_one (by omega)]; rfl
  rw [text317, e2]; rfl
def vid3 : VidV := ((⟨3, by omega⟩, ⟨17, by omega⟩), ⟨4, by omega⟩)

set_option maxRecDepth 100000 in
set_option maxHeartbeats 2000000 in
theorem works11 (w : World) (hp : PW w) : Calls Tryd.prog 18 #[] w (RetB w (.bool true)) := by
  have HT : Hid (∀ w0, TabOk w0 → Calls Tryd.prog 21 #[.agg #[.int .u8 3, .int .u16 17, .int .u8 4]] w0 (RetB w0 (.string ⟨#[51, 46, 49, 55, 46, 52]⟩))) := fun w0 h => by
    have := vtext_any 3 17 4 (by omega) (by omega) (by omega) w0 h
    rw [text3174] at this; exact this
  have HG : Hid (∀ w0, Calls Tryd.prog 25 #[.agg #[.int .u8 3, .int .u16 17, .int .u8 4]] w0 (RetB w0 (.bool true))) := fun w0 => goodV vid3 w0
  have HP : Hid (∀ w0, Calls Tryd.prog 23 #[.agg #[.int .u8 3, .int .u16 17, .int .u8 4]] w0 (RetB w0 (.int .u32 50336004))) := fun w0 => vpackB vid3 w0
  have HU : Hid (∀ w0, Calls Tryd.prog 22 #[.int .u32 50336004] w0 (RetB w0 (.agg #[.int .u8 3, .int .u16 17, .int .u8 4]))) := fun w0 => vunpackB vid3 w0
  have HV : Hid (∀ w0, PW w0 → Calls Tryd.prog 19 #[.string ⟨#[51, 46, 49, 55, 46, 52]⟩] w0 (RetB w0 (.tuple #[.agg #[.int .u8 3, .int .u16 17, .int .u8 4], .bool true]))) := fun w0 h => by
    refine (vparse_any ⟨#[51, 46, 49, 55, 46, 52]⟩ w0 (by decide) h).mono ?_
    rintro e w' ⟨hb, ⟨a, n, m, ha, hn, hm, he, rfl⟩ | ⟨hno, rfl⟩⟩
    · have he' : vidText 3 17 4 = vidText a n m := text3174.trans he
      obtain ⟨rfl, rfl, rfl⟩ := vidText_inj he'
      exact ⟨rfl, hb⟩
    · exact absurd text3174.symm (hno 3 17 4 (by omega) (by omega) (by omega))
  have T := Lib.hid hp
  clear hp
  go_enter Tryd.func18, Tryd.ntmps18
  go_wp2_with fail
  have K1 : Hid (Blk (w.alloc (.cells #[.int .u8 3, .int .u16 17, .int .u8 4] 36)) w.heap.size 36 #[.int .u8 3, .int .u16 17, .int .u8 4]) := Blk.new _ _ _
  have B0 : Hid (Below w.heap.size w (w.alloc (.cells #[.int .u8 3, .int .u16 17, .int .u8 4] 36))) := below_new _ _
  have T0 := Lib.hid (T.out.ext B0.out)
  generalize (w.alloc (.cells #[.int .u8 3, .int .u16 17, .int .u8 4] 36)) = w0 at *
  refine (HV.out _ T0.out).mono ?_
  rintro e w1 ⟨rfl, b1⟩
  have B1 : Hid (Below w.heap.size w (w1.alloc (.cells #[.int .u8 3, .int .u16 17, .int .u8 4] 36))) := (B0.out.trans (b1.mono B0.out.size)).trans ((below_new w1 _).mono (Nat.le_trans B0.out.size b1.size))
  have K2 := Lib.hid ((K1.out.ext b1).alloc (.cells #[.int .u8 3, .int .u16 17, .int .u8 4] 36))
  have K3 : Hid (Blk (w1.alloc (.cells #[.int .u8 3, .int .u16 17, .int .u8 4] 36)) w1.heap.size 36 #[.int .u8 3, .int .u16 17, .int .u8 4]) := Blk.new _ _ _
  have T1 := Lib.hid (T.out.ext B1.out)
  clear b1 K1 B0 T0 HV
  go_wp2_with fail
  generalize (w1.alloc (.cells #[.int .u8 3, .int .u16 17, .int .u8 4] 36)) = w2 at *
  generalize w1.heap.size = g at *
  refine wp_region_ext mixedT (by kernel_rfl) ?_
  repeat (first
    | (refine wpQuiet_load_row K2.out underVid rfl infoVid rfl rfl ?_; simp only [List.set_cons_succ, List.set_cons_zero])
    | (refine wpQuiet_load_row K3.out underVid rfl infoVid rfl rfl ?_; simp only [List.set_cons_succ, List.set_cons_zero])
    | go_big_quiet_step ((first | (go_at_call 21; with_reducible exact ext_call (HT.out _ (tab_ext T1.out.tab (Ext.h _)))) | (go_at_call 25; with_reducible exact ext_call (HG.out _)) | (go_at_call 23; with_reducible exact ext_call (HP.out _)) | (go_at_call 22; with_reducible exact ext_call (HU.out _)))))
  refine wpQuiet_nil ?_
  rintro _ ⟨z, rfl⟩
  go_wp2
  go_ret
  exact ⟨rfl, B1.out.trans (z.h.mono B1.out.size)⟩
end Go.Proofs.YtmfdggolnfoniaaDoor
