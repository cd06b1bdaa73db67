/- Who lacks some can put the first one at once, and then all, in order: walked. -/
import Derived.Test.YtnhbbggpgieipaaIdxh
namespace Go.Proofs.Ytnhbbggpgieipaa
open Go.RowKit

theorem RowsAt.bools {w : World} {A : Option Addr} {n c : Nat} {rows : List (List Value)} (h : RowsAt [.bool] w A n c rows) :
    ∃ bs : List Bool, bs.length = n ∧ Sl w w.heap.size 1 A n (bs.map Value.bool) := by
  obtain ⟨bs, hz, _⟩ := rows_map (fun z => [Value.bool z]) (fun _ => True) rows (fun r hr => by
    have := h.ok r hr
    match r, this with
    | [v], ⟨⟨s, hs⟩, _⟩ => exact ⟨s, by rw [hs], trivial⟩)
  have hsl := h.sl
  rw [hz, flatten_one] at hsl
  exact ⟨bs, by rw [← h.len, hz]; simp, hsl⟩
/-- those of the first k that are taken, put one by one -/
def someL (xs : List Bool) (L : List PatV) : Nat → List PatV
  | 0 => []
  | k + 1 =>
    match L[k]? with
    | none => someL xs L k
    | some p => if xs[k]? = some true then idxL (someL xs L k) p else someL xs L k
theorem someL_yes {xs : List Bool} {L : List PatV} {k : Nat} {p : PatV} (h : L[k]? = some p) (hx : xs[k]? = some true) : someL xs L (k + 1) = idxL (someL xs L k) p := by simp only [someL, h, hx, if_true]
theorem someL_no {xs : List Bool} {L : List PatV} {k : Nat} {p : PatV} (h : L[k]? = some p) (hx : xs[k]? ≠ some true) : someL xs L (k + 1) = someL xs L k := by simp only [someL, h]; rw [if_neg hx]
theorem someL_ok (xs : List Bool) (L : List PatV) : ∀ k, IdxOk (someL xs L k) ∧ (∀ p ∈ someL xs L k, p ∈ L) ∧ (someL xs L k).length ≤ k
  | 0 => ⟨.nil, by simp [someL], by simp [someL]⟩
  | k + 1 => by
    obtain ⟨h1, h2, h3⟩ := someL_ok xs L k
    cases h : L[k]? with
    | none =>
      have e : someL xs L (k + 1) = someL xs L k := by simp only [someL, h]
      rw [e]; exact ⟨h1, h2, by omega⟩
    | some p =>
      by_cases hx : xs[k]? = some true
      · rw [someL_yes h hx]
        refine ⟨h1.put p, fun q hq => ?_, by have := idxL_len (someL xs L k) p; omega⟩
        unfold idxL at hq
        split at hq
        · rcases List.mem_append.1 hq with hq | hq
          · exact h2 q hq
          · obtain rfl := List.mem_singleton.1 hq
            exact List.mem_of_getElem? h
        · exact h2 q hq
      · rw [someL_no h hx]; exact ⟨h1, h2, by omega⟩
theorem stay_then {G : Nat → Prop} {a b c : World} (h : Stay G a b) (k : Stay G b c) : Stay G a c :=
  ⟨Nat.le_trans h.1 k.1, fun i hi hg => (k.2 i (Nat.lt_of_lt_of_le hi h.1) hg).trans (h.2 i hi hg)⟩
theorem stay_put {F G : Nat → Prop} {a b c : World} (h : Below a.heap.size a b) (k : Kept F b c) (hd : ∀ q, F q → ¬ G q) : Stay G a c :=
  stay_then (Stay.of_below h) (k.stay fun q _ hg hf => hd q hf hg)
theorem fieldPatAt0 (b o : Nat) (w : World) : (Instr.fieldAt 45 (.pointer (some ⟨b, o, none⟩)) 0).run Try.prog w = .ok (.pointer (some ⟨b, o, none⟩)) w := by simp [go_sem]
theorem indexPats (b o n c k : Nat) (hk : k < n) (w : World) : (Instr.indexAt 22 (.slice (some ⟨b, o, none⟩) n c) (.int .i64 ((k : Nat) : Int))).run Try.prog w = .ok (.pointer (some ⟨b, o + k * 4, none⟩)) w := by
  have h0 : (0 : Int) ≤ (k : Int) := by omega
  have h1 : (k : Int) < (n : Int) := by omega
  simp [go_sem, h0, h1]
set_option maxRecDepth 100000 in
set_option maxHeartbeats 8000000 in
theorem indexFirst_walk (w : World) (l : List PatV) (A : Option Addr) (n c : Nat) (hm : n ≤ maxLen) (h : PatsAt w A n l) (xs : List Bool) (X : Option Addr) (nx cx : Nat) (hxl : xs.length = nx) (hxm : nx ≤ maxLen) (hx : Sl w w.heap.size 1 X nx (xs.map Value.bool)) :
    Calls Try.prog 4 #[.slice A n c, .slice X nx cx] w (RetB w (.bool true)) := by
  have H := Lib.hid h
  have HX0 := Lib.hid hx
  unfold maxLen at hxm
  clear h hx
  go_enter Try.func4, Try.ntmps4
  have HF := Lib.hid (few20_any l w A n c 20 H.out hm)
  cases hf : fewsB l 20
  · rw [fewsN_false hf] at HF
    go_wp2_with fail
    refine HF.out.mono ?_
    rintro e w3 ⟨rfl, b3⟩
    have B3 := Lib.hid b3
    clear b3 HF
    go_wp2_with fail
    refine (works31 _).mono ?_
    rintro e w4 ⟨rfl, b4⟩
    have B4 := Lib.hid (B3.out.trans (b4.mono B3.out.size))
    clear b4
    go_wp2
    go_ret
    exact ⟨rfl, B4.out⟩
  · rw [fewsN_true hf] at HF
    have HQ := Lib.hid (fews_at hf)
    have hn20 : n ≤ 100 := by have h1 := HQ.out.1; have h2 := H.out.len; omega
    go_wp2_with fail
    refine HF.out.mono ?_
    rintro e w3 ⟨rfl, b3⟩
    have B3 := Lib.hid b3
    have H := Lib.hid (H.out.ext b3)
    clear b3 HF hf
    go_wp2_with fail
    refine (made31_any l w3 A n c H.out hn20 HQ.out.2).mono ?_
    rintro e w4 ⟨g, F, rfl, hI, hF, b4⟩
    have B4 := Lib.hid (B3.out.trans (b4.mono B3.out.size))
    have HI := Lib.hid hI
    have HFx := Lib.hid hI.lt
    have h34 := Lib.hid b4.size
    have hLn : (madeL l).length ≤ 100 := Nat.le_trans (madeL_len l) (by have := H.out.len; omega)
    have hgood : Hid (∀ p ∈ madeL l, p.2.1.length ≤ 100000 ∧ p.2.2.length ≤ 100000) := fun p hp => by
      have := patB_len (hI.ok.good p hp)
      omega
    clear hI hF b4 H HQ
    generalize madeL l = L at *
    have hL5 : Hid (L.length ≤ 100000) := by rw [Hid]; omega
    have hcV : ∀ args u, (callFunc 18 args).run Try.prog u = .ok (.enter 18 args) u := enters_of Try.func18 (by kernel_rfl) rfl
    have hcH : ∀ args u, (callFunc 22 args).run Try.prog u = .ok (.enter 22 args) u := enters_of Try.func22 (by kernel_rfl) rfl
    have hcU : ∀ args u, (callFunc 20 args).run Try.prog u = .ok (.enter 20 args) u := enters_of Try.func20 (by kernel_rfl) rfl
    have hcW : ∀ args u, (callFunc 12 args).run Try.prog u = .ok (.enter 12 args) u := enters_of Try.func12 (by kernel_rfl) rfl
    go_wp2_with fail
    refine (new31_any _).mono ?_
    rintro e w5 ⟨gy, rfl, hJ, b5⟩
    have HI := Lib.hid (HI.out.ext b5)
    have HJ0 := Lib.hid hJ
    have B5 := Lib.hid (B4.out.trans (b5.mono B4.out.size))
    have h45 := Lib.hid b5.size
    clear hJ b5
    go_wp2_with fail
    refine (all31_any HI.out hL5.out).mono ?_
    rintro e w6 ⟨s, rfl, O, b6⟩
    obtain ⟨A1, c1, rfl, _⟩ := O.slice
    have PL := Lib.hid O.pats
    have HI := Lib.hid (HI.out.ext b6)
    have HJ0 := Lib.hid (HJ0.out.ext b6)
    have B6 := Lib.hid (B5.out.trans (b6.mono B5.out.size))
    have h56 := Lib.hid b6.size
    clear O b6
    go_wp2_with fail
    have h46 := Lib.hid (Nat.le_trans h45.out h56.out)
    have hFx : Hid (∀ k, F k → k < w4.heap.size) := HFx.out
    go_loopw [8] (fun i wr => ∃ k : Nat, k ≤ L.length ∧ i = .int .i64 k ∧ Hid (∃ Fy, IdxAt wr Fy gy (someL xs L k) ∧ ∀ q, Fy q → (w4.heap.size ≤ q ∧ q < w5.heap.size) ∨ w6.heap.size ≤ q) ∧ Hid (Stay (fun q => q < w4.heap.size ∨ w5.heap.size ≤ q ∧ q < w6.heap.size) w6 wr) ∧ Hid (Below w4.heap.size w6 wr)) (fun i _ => L.length - (intOf i).toNat)
    case atStart => exact ⟨0, by omega, rfl, ⟨_, HJ0.out, fun q e => .inl e⟩, ⟨Nat.le_refl _, fun _ _ _ => rfl⟩, Below.refl _ _⟩
    case round =>
      clear HJ0
      obtain ⟨k, hk, rfl, HJ, ST, B⟩ := hrel
      have hk0 : (0 : Int) ≤ (k : Int) := by omega
      by_cases hlt : k < L.length
      · have hlk : (k : Int) < (L.length : Int) := by omega
        obtain ⟨Fy, hJ, hFy⟩ := HJ.out
        have hJ := Lib.hid hJ
        have hFy := Lib.hid hFy
        obtain ⟨b, o, p, r, rfl, hb, hp, pa, R⟩ := (PL.out.stay (ST.out.mono fun q e => .inr e)).pat_ hlt
        have PA := Lib.hid pa
        have R := Lib.hid R
        have hpq := Lib.hid (hgood.out p (List.mem_of_getElem? hp))
        obtain ⟨⟨A3, c3, A4, c4, rfl, _, _, _, _⟩, _, _⟩ := PA.out
        have hMl : Hid ((someL xs L k).length ≤ 10000) := by have := (someL_ok xs L k).2.2; rw [Hid]; omega
        have HXr := Lib.hid (HX0.out.below (B6.out.trans (B.out.mono (Nat.le_trans B3.out.size h34.out))) (Nat.le_refl _))
        clear pa
        by_cases hkx : k < nx
        · have hkx' : (k : Int) < (nx : Int) := by omega
          obtain ⟨b', o', u, rfl, hb', hu, hcell⟩ := HXr.out.at_ hkx
          obtain ⟨v, hv, rfl⟩ : ∃ v, xs[k]? = some v ∧ u = .bool v := by
            rw [List.getElem?_map] at hu
            cases hx : xs[k]? with
            | none => rw [hx] at hu; cases hu
            | some v => rw [hx] at hu; exact ⟨v, rfl, (Option.some.inj hu).symm⟩
          clear hu HXr
          cases v
          · have N := Lib.hid (someL_no hp (by rw [hv]; simp))
            clear hv hp
            go_wp2_with fail
            go_roundw
            case rel => exact ⟨k + 1, by omega, by go_num, ⟨Fy, by rw [N.out]; exact hJ.out, hFy.out⟩, ST.out, B.out⟩
            case measure => simp [intOf]; omega
          · have N := Lib.hid (someL_yes hp hv)
            have HP := Lib.hid (put31_any hJ.out hMl.out p _ PA.out.at_ hpq.out)
            clear hv hp
            go_wp2_with (refine wpList_load_mid rfl 45 _ (by rfl) b (o + k * 4) (by rfl) _ _ R.out underPat rfl infoPat ?_)
            refine HP.out.mono ?_
            rintro e w7 ⟨rfl, kp, F2, h2, hF2⟩
            have ST7 : Hid (Stay (fun q => q < w4.heap.size ∨ w5.heap.size ≤ q ∧ q < w6.heap.size) w6 w7) := stay_then ST.out (kp.stay fun q _ hg hf => by have := h45.out; have := h56.out; rcases hg with hg | hg <;> rcases hFy.out q hf with e | e <;> omega)
            have B7 := Lib.hid (B.out.trans (kp.below (B := w4.heap.size) (fun q hf => by have := hFy.out q hf; have := h46.out; omega) (Nat.le_trans h46.out B.out.size)))
            have HJ7 : Hid (∃ Fy, IdxAt w7 Fy gy (someL xs L (k + 1)) ∧ ∀ q, Fy q → (w4.heap.size ≤ q ∧ q < w5.heap.size) ∨ w6.heap.size ≤ q) := ⟨F2, by rw [N.out]; exact h2, fun q e => (hF2 q e).elim (hFy.out q) (fun e => .inr (Nat.le_trans B.out.size e))⟩
            clear kp h2 hF2 HP R PA hJ
            go_wp2_with fail
            go_roundw
            case rel => exact ⟨k + 1, by omega, by go_num, HJ7.out, ST7.out, B7.out⟩
            case measure => simp [intOf]; omega
        · have hkx' : ¬ (k : Int) < (nx : Int) := by omega
          have N := Lib.hid (someL_no (xs := xs) hp (by rw [List.getElem?_eq_none (by omega)]; simp))
          clear hp
          go_wp2_with fail
          go_roundw
          case rel => exact ⟨k + 1, by omega, by go_num, ⟨Fy, by rw [N.out]; exact hJ.out, hFy.out⟩, ST.out, B.out⟩
          case measure => simp [intOf]; omega
      · have hk' : k = L.length := by omega
        subst hk'
        obtain ⟨Fy, hJ, hFy⟩ := HJ.out
        have HJ := Lib.hid hJ
        have hFy := Lib.hid hFy
        obtain ⟨m1, m2, m3⟩ := someL_ok xs L L.length
        have hM := Lib.hid m1
        have hMs := Lib.hid m2
        have hJl := Lib.hid hJ.lt
        clear hJ m1 m2 HX0 PL
        generalize someL xs L L.length = M at *
        have hM100 : M.length ≤ 100 := by omega
        have HX := Lib.hid (HI.out.stay (ST.out.mono fun q e => .inl (hFx.out q e)))
        have h6r := Lib.hid B.out.size
        go_wp2_with fail
        refine (vec31_any HJ.out).mono ?_
        rintro e wv ⟨rfl, bv⟩
        have HJ := Lib.hid (HJ.out.ext bv)
        have HX := Lib.hid (HX.out.ext bv)
        have Bv := Lib.hid (B.out.trans (bv.mono (Nat.le_trans h46.out B.out.size)))
        have hrv := Lib.hid bv.size
        clear bv
        go_wp2_with fail
        refine (lack31_any HX.out hL5.out (vecL M) (vecL_ok M)).mono ?_
        rintro e w8 ⟨s2, rfl, O2, b8⟩
        obtain ⟨A2, cK, rfl, _⟩ := O2.slice
        have PK := Lib.hid O2.pats
        have HJ := Lib.hid (HJ.out.ext b8)
        have HX := Lib.hid (HX.out.ext b8)
        have B8 := Lib.hid (Bv.out.trans (b8.mono (Nat.le_trans h46.out Bv.out.size)))
        have hv8 := Lib.hid b8.size
        have F1 := Lib.hid (first_go hM.out HX.out.ok).2
        obtain ⟨e1, e2⟩ := first_end hM.out HX.out.ok hMs.out
        have hLE := Lib.hid e2
        have hKg : Hid (∀ p ∈ lackP (vecL M) L, p.2.1.length ≤ 100000 ∧ p.2.2.length ≤ 100000) := fun p hp => hgood.out p (List.mem_filter.1 hp).1
        clear O2 b8 e2
        generalize lackP (vecL M) L = K at *
        have hK100 : K.length ≤ 100 := by omega
        have hd : (((K.length : Nat) : Int) + ((M.length : Nat) : Int) != ((L.length : Nat) : Int)) = false := by
          rw [bne_eq_false_iff_eq]; omega
        go_wp2_with fail
        refine (len31_any HJ.out).mono ?_
        rintro e _ ⟨rfl, rfl⟩
        go_wp2_with fail
        refine (len31_any HX.out).mono ?_
        rintro e _ ⟨rfl, rfl⟩
        have HJ2 : Hid (∃ Fy, IdxAt w8 Fy gy (M ++ K.take 0) ∧ ∀ q, Fy q → w4.heap.size ≤ q ∧ (q < wv.heap.size ∨ w8.heap.size ≤ q)) := ⟨Fy, by rw [List.take_zero, List.append_nil]; exact HJ.out, fun q e => by
          have := hrv.out
          have := h46.out
          have := h6r.out
          have hq : q < wr.heap.size := hJl.out q e
          rcases hFy.out q e with e | e <;> constructor <;> omega⟩
        have h48 : Hid (w4.heap.size ≤ w8.heap.size) := by have := hrv.out; have := h46.out; have := h6r.out; have := hv8.out; rw [Hid]; omega
        have hX0 := Lib.hid HX.out
        have hv5 : Hid (w4.heap.size ≤ wv.heap.size) := by have := hrv.out; have := h46.out; have := h6r.out; rw [Hid]; omega
        clear HX HJ hFy
        go_wp2_with fail
        go_loopw [10] (fun i wr => ∃ k : Nat, k ≤ K.length ∧ i = .int .i64 k ∧ Hid (∃ Fy, IdxAt wr Fy gy (M ++ K.take k) ∧ ∀ q, Fy q → w4.heap.size ≤ q ∧ (q < wv.heap.size ∨ w8.heap.size ≤ q)) ∧ Hid (Stay (fun q => q < w4.heap.size ∨ wv.heap.size ≤ q ∧ q < w8.heap.size) w8 wr) ∧ Hid (Below w4.heap.size w8 wr)) (fun i _ => K.length - (intOf i).toNat)
        case atStart => exact ⟨0, by omega, rfl, HJ2.out, ⟨Nat.le_refl _, fun _ _ _ => rfl⟩, Below.refl _ _⟩
        case round =>
          clear HJ2
          obtain ⟨k, hk, rfl, HJ, ST, B⟩ := hrel
          obtain ⟨Fy, hJ, hFy⟩ := HJ.out
          have hJ := Lib.hid hJ
          have hFy := Lib.hid hFy
          have hk0 : (0 : Int) ≤ (k : Int) := by omega
          by_cases hlt : k < K.length
          · have hlk : (k : Int) < (K.length : Int) := by omega
            obtain ⟨b, o, p, r, rfl, hb, hp, pa, R⟩ := (PK.out.stay (ST.out.mono fun q e => .inr e)).pat_ hlt
            have hbr := Lib.hid (PK.out.inb (by omega) b o rfl)
            have PA := Lib.hid pa
            have R := Lib.hid R
            have hpq := Lib.hid (hKg.out p (List.mem_of_getElem? hp))
            obtain ⟨⟨A3, c3, A4, c4, rfl, _, _, _, _⟩, _, _⟩ := PA.out
            have hMl : Hid ((M ++ K.take k).length ≤ 10000) := by rw [Hid, List.length_append, List.length_take]; omega
            have hE0 := Lib.hid (F1.out k p hp).1
            have hL0 : Hid (idxL (M ++ K.take k) p = (M ++ K.take k) ++ [p]) := if_pos hE0.out
            have hHn := (hJ.out.ok.hasnt (findP_none.1 (idxE_zero hE0.out).2.1))
            have HH : Hid (∀ u : World, Calls Try.prog 22 #[.agg (vecA (vecL (M ++ K.take k))), .agg (encP p.1).toArray] u (RetB u (.bool false))) := fun u => by
              have := rhas_any (vecL (M ++ K.take k)) (vecL_ok _) p.1.1.val ((p.1.2.val : Nat) : Int) ⟨by omega, by have := p.1.2.isLt; omega⟩ u
              unfold hasP at hHn
              rw [hHn] at this
              exact this
            have HIX : Hid (∀ u : World, (Instr.indexAt 22 (.slice (some ⟨b, o, none⟩) K.length cK) (.int .i64 ((k : Nat) : Int))).run Try.prog u = .ok (.pointer (some ⟨b, o + k * 4, none⟩)) u) := fun u => indexPats b o K.length cK k hlt u
            have hFyb : Hid (¬ Fy b) := fun e => by have := hFy.out b e; have := hbr.out; omega
            have hFG : Hid (∀ q, Fy q → ¬ (q < w4.heap.size ∨ wv.heap.size ≤ q ∧ q < w8.heap.size)) := fun q e => by have := hFy.out q e; omega
            have hFy4 : Hid (∀ q, Fy q → w4.heap.size ≤ q) := fun q e => (hFy.out q e).1
            clear pa hHn
            go_upto_region 16 with fail
            refine wp_region_held (S := fun w' => w'.rangeAt b (o + k * 4) (patC p.1 A3 p.2.1.length c3 A4 p.2.2.length c4) ∧ b < w'.heap.size) mixedS ?_
            change wpAnyH _ _ _ _ _ _ _ _ wr.drew
            have L9 : Hid (Below wr.heap.size wr wr.drew) := (Below.refl _ _).drew
            have Y9 := Lib.hid (hJ.out.ext L9.out)
            have P9 := Lib.hid (PA.out.ext L9.out)
            have S9 : Hid (wr.drew.rangeAt b (o + k * 4) (patC p.1 A3 p.2.1.length c3 A4 p.2.2.length c4) ∧ b < wr.drew.heap.size) := ⟨rangeAt_below R.out L9.out hb, Nat.lt_of_lt_of_le hb L9.out.size⟩
            clear R PA hJ
            generalize wr.drew = w9 at L9 Y9 P9 S9 ⊢
            simp only [List.size_toArray, List.length_cons, List.length_nil]
            refine takeV (i := 0) (d := 60) (v := .pointer (some ⟨gy, 0, none⟩)) rfl (by kernel_rfl) (by kernel_rfl) (by kernel_rfl) (fun _ _ _ h => h) rfl (fun _ _ => exMove (v := .pointer (some ⟨gy, 0, none⟩)) rfl) S9.out ?_
            simp only [Act.put, List.setIfInBounds_toArray, List.set_cons_zero, List.set_cons_succ]
            refine takeV (i := 2) (d := 62) (v := .slice (some ⟨b, o, none⟩) K.length cK) rfl (by kernel_rfl) (by kernel_rfl) (by kernel_rfl) (fun _ _ _ h => h) rfl (fun _ _ => exMove (v := .slice (some ⟨b, o, none⟩) K.length cK) rfl) S9.out ?_
            simp only [Act.put, List.setIfInBounds_toArray, List.set_cons_zero, List.set_cons_succ]
            refine takeV (i := 3) (d := 63) (v := .int .i64 ((k : Nat) : Int)) rfl (by kernel_rfl) (by kernel_rfl) (by kernel_rfl) (fun _ _ _ h => h) rfl (fun _ _ => exMove (v := .int .i64 ((k : Nat) : Int)) rfl) S9.out ?_
            simp only [Act.put, List.setIfInBounds_toArray, List.set_cons_zero, List.set_cons_succ]
            refine takeV (i := 4) (d := 64) (v := .pointer (some ⟨b, o + k * 4, none⟩)) rfl (by kernel_rfl) (by kernel_rfl) (by kernel_rfl) (fun _ _ _ h => h) rfl (fun w' _ => exIndex rfl rfl (HIX.out w')) S9.out ?_
            simp only [Act.put, List.setIfInBounds_toArray, List.set_cons_zero, List.set_cons_succ]
            refine takeV (i := 5) (d := 65) (v := .pointer (some ⟨b, o + k * 4, none⟩)) rfl (by kernel_rfl) (by kernel_rfl) (by kernel_rfl) (fun _ _ _ h => h) rfl (fun w' _ => exField rfl (fieldPatAt0 b (o + k * 4) w')) S9.out ?_
            simp only [Act.put, List.setIfInBounds_toArray, List.set_cons_zero, List.set_cons_succ]
            refine takeV (i := 6) (d := 66) (v := .agg (encP p.1).toArray) rfl (by kernel_rfl) (by kernel_rfl) (by kernel_rfl) (fun _ _ _ h => h) rfl (fun w' h => exMid rfl (pid_range h.1) underPid rfl infoPid) S9.out ?_
            simp only [Act.put, List.setIfInBounds_toArray, List.set_cons_zero, List.set_cons_succ]
            refine wpAnyH_all (rs := [1]) (by kernel_rfl) (by simp) ?_
            intro i hi
            simp only [List.mem_cons, List.not_mem_nil, or_false] at hi
            subst hi
            refine wpOp_of rfl rfl (wp_called (args := #[.pointer (some ⟨gy, 0, none⟩)]) hcV (by simp only [List.map_toArray, List.map_cons, List.map_nil]; rfl) (vec31_any Y9.out) ?_)
            rintro e w_1 ⟨rfl, h_2⟩
            refine ⟨_, rfl, And.intro (rangeAt_below S9.out.1 h_2 S9.out.2) (Nat.lt_of_lt_of_le S9.out.2 h_2.size), ?_⟩
            simp only [Act.put, List.setIfInBounds_toArray, List.set_cons_zero, List.set_cons_succ]
            have B_3 := Lib.hid (And.intro (rangeAt_below S9.out.1 h_2 S9.out.2) (Nat.lt_of_lt_of_le S9.out.2 h_2.size))
            have F_4 := Lib.hid (Y9.out.ext h_2)
            have F_5 := Lib.hid (P9.out.ext h_2)
            have F_6 := Lib.hid (ext_trans L9.out h_2)
            clear S9 Y9 P9 L9
            clear h_2
            refine wpAnyH_all (rs := [7]) (by kernel_rfl) (by simp) ?_
            intro i hi
            simp only [List.mem_cons, List.not_mem_nil, or_false] at hi
            subst hi
            refine wpOp_of rfl rfl (wp_called (args := #[.agg (vecA (vecL (M ++ K.take k))), .agg (encP p.1).toArray]) hcH (by simp only [List.map_toArray, List.map_cons, List.map_nil]; rfl) (HH.out w_1) ?_)
            rintro e w_7 ⟨rfl, h_8⟩
            refine ⟨_, rfl, And.intro (rangeAt_below B_3.out.1 h_8 B_3.out.2) (Nat.lt_of_lt_of_le B_3.out.2 h_8.size), ?_⟩
            simp only [Act.put, List.setIfInBounds_toArray, List.set_cons_zero, List.set_cons_succ]
            have B_9 := Lib.hid (And.intro (rangeAt_below B_3.out.1 h_8 B_3.out.2) (Nat.lt_of_lt_of_le B_3.out.2 h_8.size))
            have F_10 := Lib.hid (F_4.out.ext h_8)
            have F_11 := Lib.hid (F_5.out.ext h_8)
            have F_12 := Lib.hid (ext_trans F_6.out h_8)
            clear B_3 F_4 F_5 F_6
            clear h_8
            refine takeV (i := 8) (d := 68) (v := .bool false) rfl (by kernel_rfl) (by kernel_rfl) (by kernel_rfl) (fun _ _ _ h => h) rfl (fun _ _ => exMove (v := .bool false) rfl) B_9.out ?_
            simp only [Act.put, List.setIfInBounds_toArray, List.set_cons_zero, List.set_cons_succ]
            refine takeV (i := 9) (d := 69) (v := .pointer (some ⟨gy, 0, none⟩)) rfl (by kernel_rfl) (by kernel_rfl) (by kernel_rfl) (fun _ _ _ h => h) rfl (fun _ _ => exMove (v := .pointer (some ⟨gy, 0, none⟩)) rfl) B_9.out ?_
            simp only [Act.put, List.setIfInBounds_toArray, List.set_cons_zero, List.set_cons_succ]
            refine takeV (i := 10) (d := 70) (v := .slice (some ⟨b, o, none⟩) K.length cK) rfl (by kernel_rfl) (by kernel_rfl) (by kernel_rfl) (fun _ _ _ h => h) rfl (fun _ _ => exMove (v := .slice (some ⟨b, o, none⟩) K.length cK) rfl) B_9.out ?_
            simp only [Act.put, List.setIfInBounds_toArray, List.set_cons_zero, List.set_cons_succ]
            refine takeV (i := 11) (d := 71) (v := .int .i64 ((k : Nat) : Int)) rfl (by kernel_rfl) (by kernel_rfl) (by kernel_rfl) (fun _ _ _ h => h) rfl (fun _ _ => exMove (v := .int .i64 ((k : Nat) : Int)) rfl) B_9.out ?_
            simp only [Act.put, List.setIfInBounds_toArray, List.set_cons_zero, List.set_cons_succ]
            refine takeV (i := 12) (d := 72) (v := .pointer (some ⟨b, o + k * 4, none⟩)) rfl (by kernel_rfl) (by kernel_rfl) (by kernel_rfl) (fun _ _ _ h => h) rfl (fun w' _ => exIndex rfl rfl (HIX.out w')) B_9.out ?_
            simp only [Act.put, List.setIfInBounds_toArray, List.set_cons_zero, List.set_cons_succ]
            refine takeV (i := 13) (d := 73) (v := .agg (patC p.1 A3 p.2.1.length c3 A4 p.2.2.length c4).toArray) rfl (by kernel_rfl) (by kernel_rfl) (by kernel_rfl) (fun _ _ _ h => h) rfl (fun w' h => exMid rfl h.1 underPat rfl infoPat) B_9.out ?_
            simp only [Act.put, List.setIfInBounds_toArray, List.set_cons_zero, List.set_cons_succ]
            refine wpAnyH_all (rs := [14]) (by kernel_rfl) (by simp) ?_
            intro i hi
            simp only [List.mem_cons, List.not_mem_nil, or_false] at hi
            subst hi
            have HP := Lib.hid (put31_any F_10.out hMl.out p _ F_11.out.at_ hpq.out)
            refine wpOp_of rfl rfl (wp_called (args := #[.pointer (some ⟨gy, 0, none⟩), .agg (patC p.1 A3 p.2.1.length c3 A4 p.2.2.length c4).toArray]) hcU (by simp only [List.map_toArray, List.map_cons, List.map_nil]; rfl) (HP.out) ?_)
            rintro e wz ⟨rfl, kp, F2, hI2, hF2⟩
            have hbz : ¬ Fy b := hFyb.out
            have SZ : Hid (wz.rangeAt b (o + k * 4) (patC p.1 A3 p.2.1.length c3 A4 p.2.2.length c4) ∧ b < wz.heap.size) := ⟨rangeAt_keep B_9.out.1 fun j => World.cell?_of_block (a := ⟨b, j, none⟩) (kp.block b B_9.out.2 hbz), Nat.lt_of_lt_of_le B_9.out.2 kp.size⟩
            rw [hE0.out]
            refine ⟨_, rfl, SZ.out, ?_⟩
            simp only [Act.put, List.setIfInBounds_toArray, List.set_cons_zero, List.set_cons_succ]
            have KPZ := Lib.hid kp
            have YZ := Lib.hid hI2
            have FZ := Lib.hid hF2
            clear kp hI2 hF2
            refine takeV (i := 15) (d := 75) (v := .bool false) rfl (by kernel_rfl) (by kernel_rfl) (by kernel_rfl) (fun _ _ _ h => h) rfl (fun w' _ => exBin rfl rfl (by rfl) (by kernel_rfl)) SZ.out ?_
            simp only [Act.put, List.setIfInBounds_toArray, List.set_cons_zero, List.set_cons_succ]
            refine takeV (i := 16) (d := 76) (v := .bool false) rfl (by kernel_rfl) (by kernel_rfl) (by kernel_rfl) (fun _ _ _ h => h) rfl (fun _ _ => exPickF (v := .bool false) rfl rfl) SZ.out ?_
            simp only [Act.put, List.setIfInBounds_toArray, List.set_cons_zero, List.set_cons_succ]
            refine wpAnyH_done (by kernel_rfl) ?_ _
            go_wp2_with fail
            have st : Stay (fun q => q < w4.heap.size ∨ wv.heap.size ≤ q ∧ q < w8.heap.size) w8 wz := stay_then ST.out (stay_put F_12.out KPZ.out hFG.out)
            have BZ := Lib.hid ((B.out.trans (F_12.out.mono (Nat.le_trans h48.out B.out.size))).trans (KPZ.out.below (B := w4.heap.size) hFy4.out (by have := B.out.size; have := F_12.out.size; have := h48.out; omega)))
            have YN : Hid (∃ Fy, IdxAt wz Fy gy (M ++ K.take (k + 1)) ∧ ∀ q, Fy q → w4.heap.size ≤ q ∧ (q < wv.heap.size ∨ w8.heap.size ≤ q)) := ⟨F2, by rw [take_snoc' hp, ← List.append_assoc, ← hL0.out]; exact YZ.out, fun q e => (FZ.out q e).elim (hFy.out q) (fun e => by have := B.out.size; have := F_12.out.size; have := h48.out; constructor <;> omega)⟩
            clear KPZ YZ FZ SZ F_12
            go_roundw
            case rel => exact ⟨k + 1, by omega, by go_num, YN.out, st, BZ.out⟩
            case measure => simp [intOf]; omega
          · have hk' : k = K.length := by omega
            subst hk'
            rw [List.take_length] at hJ
            have HY := Lib.hid hJ.out
            have HX := Lib.hid (hX0.out.stay (ST.out.mono fun q e => .inl (hFx.out q e)))
            have BW := Lib.hid (B6.out.trans ((B8.out.trans B.out).mono (Nat.le_trans B3.out.size h34.out)))
            have HEQ : Hid (∀ u : World, (binOp .eql 25 (.agg (vecA (vecL L))) (.agg (vecA (vecL L)))).run Try.prog u = .ok (.bool true) u) := fun u => by
              rw [eql_vec _ _ (vecL_ok L) (vecL_ok L), decide_eq_true rfl]
            clear hJ hX0 ST B
            go_wp2_with fail
            have HYV := Lib.hid (vec31_any HY.out)
            rw [hLE.out] at HYV
            refine HYV.out.mono ?_
            rintro e w11 ⟨rfl, b11⟩
            have HX := Lib.hid (HX.out.ext b11)
            have BW := Lib.hid (BW.out.trans (b11.mono BW.out.size))
            clear b11 HYV HY
            go_wp2_with fail
            refine (vec31_any HX.out).mono ?_
            rintro e w12 ⟨rfl, b12⟩
            have BW := Lib.hid (BW.out.trans (b12.mono BW.out.size))
            have HEQ := HEQ.out
            clear b12 HX
            generalize vecA (vecL L) = vl at *
            go_wp2_with fail
            refine (works31 _).mono ?_
            rintro e w13 ⟨rfl, b13⟩
            have BW := Lib.hid (BW.out.trans (b13.mono BW.out.size))
            clear b13
            go_wp2
            go_ret
            exact ⟨rfl, BW.out⟩
end Go.Proofs.Ytnhbbggpgieipaa
