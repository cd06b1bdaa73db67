/- slices.SortStableFunc at a census' rows, and census.By: walked. -/
import Derived.Test.YtihggkmjalofiaaGreatDoorStao
import Derived.Test.YtihggkmjalofiaaGreatDoorIns
import Derived.Test.YtihggkmjalofiaaGreatDoorSets
import Derived.Test.YtihggkmjalofiaaGreatDoorCenm
namespace Go.Proofs.YtihggkmjalofiaaGreatDoor
open Go.RowKit Go.Sort Go.Lib Go.Shelf

/-! ## blocks, each sorted: up to a, and from a on -/
def UpTo (k : RowR → Int) (D : Nat → RowR) (bs a : Nat) : Prop := ∀ s, bs ∣ s → s + bs ≤ a → SrF k D s (s + bs)
def FromOn (k : RowR → Int) (D : Nat → RowR) (bs a n : Nat) : Prop := ∀ s, bs ∣ s → a ≤ s → s < n → SrF k D s (min (s + bs) n)
section
variable {k : RowR → Int} {D D' : Nat → RowR} {bs a n b : Nat}
theorem upTo_zero : UpTo k D 20 0 := fun s _ h => by omega
theorem upTo_step (hbs : bs = 20 ∨ bs = 40 ∨ bs = 80) (hd : bs ∣ a) (h : UpTo k D bs a) (f : ∀ x, x < a ∨ a + bs ≤ x → D' x = D x) (s : SrF k D' a (a + bs)) : UpTo k D' bs (a + bs) := fun t ht hle => by
 rcases Nat.lt_or_ge t a with h1 | h1
 ·have h2 : t + bs ≤ a := by rcases hbs with rfl | rfl | rfl <;> omega
  exact (h t ht h2).same fun x _ h3 => f x (.inl (by omega))
 ·have : t = a := by rcases hbs with rfl | rfl | rfl <;> omega
  subst this
  exact s
theorem fromOn_step (h : FromOn k D bs a n) (f : ∀ x, x < a ∨ a + 2 * bs ≤ x → D' x = D x) : FromOn k D' bs (a + 2 * bs) n := fun t ht h1 h2 =>
 (h t ht (by omega) h2).same fun x h3 _ => f x (.inr (by omega))
theorem fromOn_two (hbs : bs = 20 ∨ bs = 40) (hd : 2 * bs ∣ a) (h : FromOn k D bs a n) (hn : a + 2 * bs ≤ n) : SrF k D a (a + bs) ∧ SrF k D (a + bs) (a + 2 * bs) := by
 have h1 := h a (by rcases hbs with rfl | rfl <;> omega) (Nat.le_refl _) (by omega)
 have h2 := h (a + bs) (by rcases hbs with rfl | rfl <;> omega) (by omega) (by omega)
 rw [Nat.min_eq_left (by omega)] at h1
 rw [show min (a + bs + bs) n = a + 2 * bs by omega] at h2
 exact ⟨h1, h2⟩
theorem fromOn_rest (hbs : bs = 20 ∨ bs = 40) (hd : 2 * bs ∣ a) (h : FromOn k D bs a n) (hn : a + bs < n) (hn2 : n < a + 2 * bs) : SrF k D a (a + bs) ∧ SrF k D (a + bs) n := by
 have h1 := h a (by rcases hbs with rfl | rfl <;> omega) (Nat.le_refl _) (by omega)
 have h2 := h (a + bs) (by rcases hbs with rfl | rfl <;> omega) (by omega) (by omega)
 rw [Nat.min_eq_left (by omega)] at h1
 rw [show min (a + bs + bs) n = n by omega] at h2
 exact ⟨h1, h2⟩
theorem fromOn_last (hbs : bs = 20 ∨ bs = 40) (hd : 2 * bs ∣ a) (h : FromOn k D bs a n) (_ha : a ≤ n) (hn : n ≤ a + bs) : SrF k D a n := by
 rcases Nat.lt_or_ge a n with h1 | h1
 ·have h2 := h a (by rcases hbs with rfl | rfl <;> omega) (Nat.le_refl _) h1
  rw [Nat.min_eq_right hn] at h2
  exact h2
 ·exact SrF.none h1
theorem upTo_end (hbs : bs = 20 ∨ bs = 40 ∨ bs = 80) (hd : bs ∣ a) (h : UpTo k D bs a) (ha : a ≤ n) (hn : n < a + bs) (f : ∀ x, x < a ∨ n ≤ x → D' x = D x) (s : SrF k D' a n) : FromOn k D' bs 0 n := fun t ht _ hlt => by
 rcases Nat.lt_or_ge t a with h1 | h1
 ·have h2 : t + bs ≤ a := by rcases hbs with rfl | rfl | rfl <;> omega
  rw [Nat.min_eq_left (by omega)]
  exact (h t ht h2).same fun x _ h3 => f x (.inl (by omega))
 ·have : t = a := by rcases hbs with rfl | rfl | rfl <;> omega
  subst this
  rw [Nat.min_eq_right (by omega)]
  exact s
theorem fromOn_all (h : FromOn k D bs 0 n) (hn : n ≤ bs) : SrF k D 0 n := by
 rcases Nat.lt_or_ge 0 n with h1 | h1
 ·have h2 := h 0 (Nat.dvd_zero _) (Nat.le_refl _) h1
  rw [show min (0 + bs) n = n by omega] at h2
  exact h2
 ·exact SrF.none h1
end
theorem isAggR (w : World) : (isAgg 107).run Tryz.prog w = .ok true w := by kernel_rfl
theorem sizeR (w : World) : (Go.sizeOf 107).run Tryz.prog w = .ok 9 w := by kernel_rfl
theorem lt_less {cf : RowR → RowR → Int} {k : RowR → Int} (h : LessIs cf k) (x y : RowR) : ltOf cf x y = decide (k y < k x) := by
 unfold ltOf
 by_cases q : k y < k x
 ·rw [less_yes h q, decide_eq_true q]
 ·rw [less_no h q, decide_eq_false q]
theorem swo_less {cf : RowR → RowR → Int} {k : RowR → Int} (h : LessIs cf k) : SWO (ltOf cf) where
 irrefl x := by rw [lt_less h]; simp
 trans x y z h1 h2 := by rw [lt_less h] at *; simp at *; omega
 ntrans x y z h1 h2 := by rw [lt_less h] at *; simp at *; omega
/-- insertion, told by the keys -/
theorem ins54_any (k : RowR → Int) (cf : RowR → RowR → Int) (hcf : LessIs cf k) (g : Nat) (cb : Array Value) (blk off cap a b : Nat) (d0 d : Array RowR) (w0 w : World) (he : ∀ args w, (callFunc g args).run Tryz.prog w = .ok (.enter g args) w) (hC : CmpLays Tryz.prog g cb encR 9 cf blk off d0.size w0) (hR : RowK encR 9 w0 blk off d0) (hs : d0.size = d.size) (hS : SWK encR 9 w0 blk off d w) (hab : a ≤ b) (hb : b ≤ d.size) (hsz : d.size ≤ 1000) :
  Calls Tryz.prog 290 #[.slice (some ⟨blk, off, none⟩) d.size cap, .int .i64 (a : Nat), .int .i64 (b : Nat), .func (.func g) #[] cb] w fun e w' => e = .returned (.tuple #[]) ∧ ∃ d' : Array RowR, d'.size = d.size ∧ (FiF k (atA d) (atA d') a b ∧ SrF k (atA d') a b) ∧ SWK encR 9 w0 blk off d' w' := by
 refine (AnyQ.insertionSortCmpFunc_w Tryz.insRow 9 isAggR sizeR encR cf g cb blk off cap a b d0 d w0 w he hC hR hs hS (swo_less hcf) hab hb (by omega)).mono ?_
 rintro e w' ⟨rfl, h⟩
 have hh := insertionSort_stable (k := k) (lt := ltOf cf) (lt_less hcf) d hab hb
 exact ⟨rfl, _, hh.1, hh.2, h⟩
set_option maxRecDepth 100000 in
set_option maxHeartbeats 16000000 in
/-- slices.stableCmpFunc -/
theorem stable54_any (k : RowR → Int) (cf : RowR → RowR → Int) (hcf : LessIs cf k) (g : Nat) (cb : Array Value) (blk off cap n : Nat) (d0 d : Array RowR) (w0 w : World) (he : ∀ args w, (callFunc g args).run Tryz.prog w = .ok (.enter g args) w) (hC : CmpLays Tryz.prog g cb encR 9 cf blk off d0.size w0) (hR : RowK encR 9 w0 blk off d0) (hs : d0.size = n) (hn : d.size = n) (hS : SWK encR 9 w0 blk off d w) (hsz : n ≤ 60) :
  Calls Tryz.prog 217 #[.slice (some ⟨blk, off, none⟩) n cap, .int .i64 ((n : Nat) : Int), .func (.func g) #[] cb] w fun e w' => e = .returned (.tuple #[]) ∧ ∃ d' : Array RowR, d'.size = n ∧ (FiF k (atA d) (atA d') 0 n ∧ SrF k (atA d') 0 n) ∧ SWK encR 9 w0 blk off d' w' := by
 have HE := Lib.hid he
 have HC := Lib.hid hC
 have R := Lib.hid hR
 have CF := Lib.hid hcf
 have S0 := Lib.hid hS
 have HS := Lib.hid hs
 have HN := Lib.hid hn
 clear he hC hR hcf hS hs hn
 have INS : Hid (∀ (a b : Nat) (dk : Array RowR) (u : World), dk.size = n → SWK encR 9 w0 blk off dk u → a ≤ b → b ≤ n → Calls Tryz.prog 290 #[.slice (some ⟨blk, off, none⟩) n cap, .int .i64 (a : Nat), .int .i64 (b : Nat), .func (.func g) #[] cb] u fun e w' => e = .returned (.tuple #[]) ∧ ∃ d' : Array RowR, d'.size = n ∧ (FiF k (atA dk) (atA d') a b ∧ SrF k (atA d') a b) ∧ SWK encR 9 w0 blk off d' w') := by
  intro a b dk u h1 h2 h3 h4
  have := ins54_any k cf CF.out g cb blk off cap a b d0 dk w0 u HE.out HC.out R.out (HS.out.trans h1.symm) h2 h3 (by omega) (by omega)
  rw [h1] at this
  exact this
 have SYM : Hid (∀ (a m b : Nat) (dk : Array RowR) (u : World), dk.size = n → SWK encR 9 w0 blk off dk u → a < m → m < b → b ≤ n → SrF k (atA dk) a m ∧ SrF k (atA dk) m b → Calls Tryz.prog 291 #[.slice (some ⟨blk, off, none⟩) n cap, .int .i64 (a : Nat), .int .i64 (m : Nat), .int .i64 (b : Nat), .func (.func g) #[] cb] u fun e w' => e = .returned (.tuple #[]) ∧ ∃ d' : Array RowR, d'.size = n ∧ (FiF k (atA dk) (atA d') a b ∧ SrF k (atA d') a b) ∧ SWK encR 9 w0 blk off d' w') := by
  intro a m b dk u h1 h2 h3 h4 h5 h6
  have := sym54_any k cf CF.out g cb blk off cap d0 w0 HE.out HC.out R.out (by rw [HS.out]; omega) (b - a + 1) a m b dk u (by omega) h3 h4 (by omega) (h1.trans HS.out.symm) h6.1 h6.2 h2
  rw [h1] at this
  exact this
 clear HC R CF HE HS
 go_enter Tryz.func217, Tryz.ntmps217
 go_wp2_with fail
 go_loopw [7, 8] (fun av bv wr => ∃ (a b : Nat) (dk : Array RowR), av = .int .i64 ((a : Nat) : Int) ∧ bv = .int .i64 ((b : Nat) : Int) ∧ Hid (b = a + 20) ∧ a ≤ n ∧ Hid (20 ∣ a) ∧ Hid (dk.size = n) ∧ Hid (UpTo k (atA dk) 20 a) ∧ Hid (FiF k (atA d) (atA dk) 0 n) ∧ Hid (SWK encR 9 w0 blk off dk wr)) (fun av _ _ => n - (intOf av).toNat)
 case atStart => exact ⟨0, 20, d, rfl, rfl, rfl, Nat.zero_le _, Nat.dvd_zero _, HN.out, upTo_zero, FiF.refl, S0.out⟩
 case round =>
  clear S0 HN
  obtain ⟨a, b, dk, rfl, rfl, HBB, han, HD, HDk, HU, HF, S1⟩ := hrel
  have FB : a + 20 ≤ b ∧ b ≤ a + 20 := by have := HBB.out; omega
  by_cases hlt : b ≤ n
  ·obtain ⟨b2, hb2⟩ : ∃ x, x = b + 20 := ⟨_, rfl⟩
   have HB2 := Lib.hid hb2
   clear hb2
   have hz0 : ((b : Nat) : Int) ≤ ((n : Nat) : Int) := by omega
   go_wp2_with fail
   refine (INS.out a b dk wr HDk.out S1.out (by omega) hlt).mono ?_
   rintro e w2 ⟨rfl, d2, hd2, e2, s2⟩
   have HD2 := Lib.hid hd2
   have HU2 : Hid (UpTo k (atA d2) 20 b) := by
    have e3 := e2
    rw [HBB.out] at e3 ⊢
    exact upTo_step (.inl rfl) HD.out HU.out (fun x hx => e3.1.out x (by omega)) e3.2
   have HF2 : Hid (FiF k (atA d) (atA d2) 0 n) := HF.out.trans (e2.1.widen (Nat.zero_le _) hlt (by omega))
   have S2 := Lib.hid s2
   have HDd : Hid (20 ∣ b) := by have := HD.out; rw [Hid]; omega
   clear hd2 e2 s2 S1 HU HF HDk HD
   go_wp2_with fail
   rw [show ((b : Nat) : Int) + 20 = ((b2 : Nat) : Int) by have := HB2.out; omega]
   go_roundw
   case rel => exact ⟨b, b2, d2, rfl, rfl, HB2.out, hlt, HDd.out, HD2.out, HU2.out, HF2.out, S2.out⟩
   case measure => simp [intOf]; omega
  ·have hz0 : ¬ ((b : Nat) : Int) ≤ ((n : Nat) : Int) := by omega
   go_upto_region 6 with fail
   go_wp2_with fail
   refine (INS.out a n dk wr HDk.out S1.out han (Nat.le_refl _)).mono ?_
   rintro e w2 ⟨rfl, d2, hd2, e2, s2⟩
   have HD2 := Lib.hid hd2
   have HO2 : Hid (FromOn k (atA d2) 20 0 n) := upTo_end (.inl rfl) HD.out HU.out han (by omega) (fun x hx => e2.1.out x (by omega)) e2.2
   have HF2 : Hid (FiF k (atA d) (atA d2) 0 n) := HF.out.trans (e2.1.widen (Nat.zero_le _) (Nat.le_refl _) han)
   have S2 := Lib.hid s2
   clear hd2 e2 s2 S1 HU HF HDk HD hlt han HBB FB
   go_wp2_with fail
   go_loopw [6] (fun sv wr => ∃ (bs : Nat) (dk : Array RowR), sv = .int .i64 ((bs : Nat) : Int) ∧ (20 ≤ bs ∧ bs ≤ 80) ∧ Hid (bs = 20 ∨ bs = 40 ∨ bs = 80) ∧ Hid (dk.size = n) ∧ Hid (FromOn k (atA dk) bs 0 n) ∧ Hid (FiF k (atA d) (atA dk) 0 n) ∧ Hid (SWK encR 9 w0 blk off dk wr)) (fun sv _ => 80 - (intOf sv).toNat)
   case atStart => exact ⟨20, d2, rfl, by omega, .inl rfl, HD2.out, HO2.out, HF2.out, S2.out⟩
   case round =>
    clear S2 HD2 HO2 HF2
    obtain ⟨bs, dk, rfl, hbs8, HBS, HDk, HO, HF, S1⟩ := hrel
    by_cases hlb : bs < n
    ·have hbs2 : Hid (bs = 20 ∨ bs = 40) := by have := HBS.out; rw [Hid]; omega
     obtain ⟨tb, htb⟩ : ∃ x, x = 2 * bs := ⟨_, rfl⟩
     obtain ⟨ts, hts⟩ : ∃ x, x = bs * 2 := ⟨_, rfl⟩
     have FT : 2 * bs ≤ tb ∧ tb ≤ 2 * bs ∧ 2 * bs ≤ ts ∧ ts ≤ 2 * bs := by omega
     have HTB := Lib.hid htb
     have HTS := Lib.hid hts
     have H84 : Hid (20 ≤ ts ∧ ts ≤ 80 ∧ (ts = 20 ∨ ts = 40 ∨ ts = 80) ∧ 80 - ts < 80 - bs) := by have := hbs2.out; rw [Hid]; omega
     clear htb hts
     have hz0 : ((bs : Nat) : Int) < ((n : Nat) : Int) := by omega
     go_upto_region 9 with fail
     rw [show 2 * ((bs : Nat) : Int) = ((tb : Nat) : Int) by have := HTB.out; omega]
     go_loopw [7, 8] (fun av bv wr => ∃ (a b : Nat) (dj : Array RowR), av = .int .i64 ((a : Nat) : Int) ∧ bv = .int .i64 ((b : Nat) : Int) ∧ Hid (b = a + 2 * bs) ∧ a ≤ n ∧ Hid (2 * bs ∣ a) ∧ Hid (dj.size = n) ∧ Hid (UpTo k (atA dj) (2 * bs) a) ∧ Hid (FromOn k (atA dj) bs a n) ∧ Hid (FiF k (atA d) (atA dj) 0 n) ∧ Hid (SWK encR 9 w0 blk off dj wr)) (fun av _ _ => n - (intOf av).toNat)
     case atStart => exact ⟨0, tb, dk, rfl, rfl, by rw [HTB.out, Nat.zero_add]; rfl, Nat.zero_le _, Nat.dvd_zero _, HDk.out, fun s _ h => by omega, HO.out, HF.out, S1.out⟩
     case round =>
      clear S1 HDk HO HF
      obtain ⟨a, b, dj, rfl, rfl, HBB, han, HD, HDj, HU, HO, HF, S1⟩ := hrel
      have FB : a + 2 * bs ≤ b ∧ b ≤ a + 2 * bs := by have := HBB.out; omega
      obtain ⟨am, ham⟩ : ∃ x, x = a + bs := ⟨_, rfl⟩
      have FA : a + bs ≤ am ∧ am ≤ a + bs := by omega
      have HAM := Lib.hid ham
      clear ham
      by_cases hlt : b ≤ n
      ·obtain ⟨b2, hb2⟩ : ∃ x, x = b + tb := ⟨_, rfl⟩
       have HB2 := Lib.hid hb2
       clear hb2
       have HT : Hid (SrF k (atA dj) a am ∧ SrF k (atA dj) am b) := by
        rw [HAM.out, HBB.out]
        exact fromOn_two hbs2.out HD.out HO.out (by omega)
       have hz0 : ((b : Nat) : Int) ≤ ((n : Nat) : Int) := by omega
       go_wp2_with fail
       rw [show ((a : Nat) : Int) + ((bs : Nat) : Int) = ((am : Nat) : Int) by have := HAM.out; omega]
       refine (SYM.out a am b dj wr HDj.out S1.out (by omega) (by omega) hlt HT.out).mono ?_
       rintro e w2 ⟨rfl, d2, hd2, e2, s2⟩
       have HD2 := Lib.hid hd2
       have e3 := e2
       rw [HBB.out] at e3
       have HU2 : Hid (UpTo k (atA d2) (2 * bs) b) := by
        rw [HBB.out]
        exact upTo_step (by have := hbs2.out; omega) HD.out HU.out (fun x hx => e3.1.out x (by omega)) e3.2
       have HO2 : Hid (FromOn k (atA d2) bs b n) := by
        rw [HBB.out]
        exact fromOn_step HO.out (fun x hx => e3.1.out x (by omega))
       have HF2 : Hid (FiF k (atA d) (atA d2) 0 n) := HF.out.trans (e2.1.widen (Nat.zero_le _) hlt (by omega))
       have S2 := Lib.hid s2
       have HDd : Hid (2 * bs ∣ b) := by rw [HBB.out]; exact Nat.dvd_add HD.out (Nat.dvd_refl _)
       have HB3 : Hid (b2 = b + 2 * bs) := by rw [Hid, HB2.out, HTB.out]
       clear hd2 e2 e3 s2 S1 HU HF HDj HD HO HT
       go_wp2_with fail
       rw [show ((b : Nat) : Int) + 2 * ((bs : Nat) : Int) = ((b2 : Nat) : Int) by have := And.intro HTB.out HB2.out; omega]
       go_roundw
       case rel => exact ⟨b, b2, d2, rfl, rfl, HB3.out, hlt, HDd.out, HD2.out, HU2.out, HO2.out, HF2.out, S2.out⟩
       case measure => simp [intOf]; omega
      ·by_cases hm : am < n
       ·have HT : Hid (SrF k (atA dj) a am ∧ SrF k (atA dj) am n) := by
         rw [HAM.out]
         exact fromOn_rest hbs2.out HD.out HO.out (by omega) (by omega)
        have hz0 : ¬ ((b : Nat) : Int) ≤ ((n : Nat) : Int) := by omega
        have hz1 : ((a : Nat) : Int) + ((bs : Nat) : Int) < ((n : Nat) : Int) := by omega
        go_upto_region 15 with fail
        rw [show ((a : Nat) : Int) + ((bs : Nat) : Int) = ((am : Nat) : Int) by have := HAM.out; omega]
        go_wp2_with fail
        refine (SYM.out a am n dj wr HDj.out S1.out (by omega) hm (Nat.le_refl _) HT.out).mono ?_
        rintro e w2 ⟨rfl, d2, hd2, e2, s2⟩
        have HD2 := Lib.hid hd2
        have HO2 : Hid (FromOn k (atA d2) ts 0 n) := by
         rw [HTS.out, Nat.mul_comm bs 2]
         exact upTo_end (by have := hbs2.out; omega) HD.out HU.out han (by omega) (fun x hx => e2.1.out x (by omega)) e2.2
        have HF2 : Hid (FiF k (atA d) (atA d2) 0 n) := HF.out.trans (e2.1.widen (Nat.zero_le _) (Nat.le_refl _) han)
        have S2 := Lib.hid s2
        clear hd2 e2 s2 S1 HU HF HDj HD HO HT
        go_wp2_with fail
        rw [show ((bs : Nat) : Int) * 2 = ((ts : Nat) : Int) by have := HTS.out; omega]
        go_roundw
        case rel => exact ⟨ts, d2, rfl, ⟨H84.out.1, H84.out.2.1⟩, H84.out.2.2.1, HD2.out, HO2.out, HF2.out, S2.out⟩
        case measure => simp [intOf]; exact H84.out.2.2.2
       ·have HO2 : Hid (FromOn k (atA dj) ts 0 n) := by
         rw [HTS.out, Nat.mul_comm bs 2]
         exact upTo_end (by have := hbs2.out; omega) HD.out HU.out han (by omega) (fun x _ => rfl) (fromOn_last hbs2.out HD.out HO.out han (by omega))
        clear HU HD HO
        have hz0 : ¬ ((b : Nat) : Int) ≤ ((n : Nat) : Int) := by omega
        have hz1 : ¬ ((a : Nat) : Int) + ((bs : Nat) : Int) < ((n : Nat) : Int) := by omega
        go_wp2_with fail
        rw [show ((bs : Nat) : Int) * 2 = ((ts : Nat) : Int) by have := HTS.out; omega]
        go_roundw
        case rel => exact ⟨ts, dj, rfl, ⟨H84.out.1, H84.out.2.1⟩, H84.out.2.2.1, HDj.out, HO2.out, HF.out, S1.out⟩
        case measure => simp [intOf]; exact H84.out.2.2.2
    ·have hz0 : ¬ ((bs : Nat) : Int) < ((n : Nat) : Int) := by omega
     go_wp2_with fail
     go_end0
     exact ⟨rfl, dk, HDk.out, ⟨HF.out, fromOn_all HO.out (by omega)⟩, S1.out⟩
end Go.Proofs.YtihggkmjalofiaaGreatDoor
