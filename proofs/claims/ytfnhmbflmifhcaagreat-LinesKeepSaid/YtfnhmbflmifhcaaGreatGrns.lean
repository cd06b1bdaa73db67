/- Texts of general use, one behind another. -/
import Derived.Test.YtfnhmbflmifhcaaGreatGrl
import Derived.Test.YtfnhmbflmifhcaaGreatGri
import Derived.Test.YtfnhmbflmifhcaaGreatGrh
import Derived.Test.YtfnhmbflmifhcaaGreatPaws
import Derived.Test.YtfnhmbflmifhcaaGreatLits
import Derived.Test.YtfnhmbflmifhcaaGreatGrm
import Derived.Test.YtfnhmbflmifhcaaGreatGras
import Derived.Test.YtfnhmbflmifhcaaGreatVrefs

/- The chapter's example of a graph: walked. -/
namespace Go.Proofs.YtfnhmbflmifhcaaGreat
open Go.RowKit

end Go.Proofs.YtfnhmbflmifhcaaGreat

/- The same patches make the same graph: the statement walked. -/
namespace Go.Proofs.YtfnhmbflmifhcaaGreat
open Go.RowKit

/-- no two of the first k with one name -/
def OneN (l : List PatV) (k : Nat) : Prop := ∀ a b p q, a < k → b < a → l[a]? = some p → l[b]? = some q → p.1 = q.1 → p = q
def OneI (l : List PatV) (p : PatV) (j : Nat) : Prop := ∀ b q, b < j → l[b]? = some q → p.1 = q.1 → p = q
theorem OneN.snoc {l : List PatV} {k : Nat} {p : PatV} (h : OneN l k) (hp : l[k]? = some p) (hi : OneI l p k) : OneN l (k + 1) := fun a b p' q ha hb hp' hq e => by
  by_cases hk : a = k
  · subst hk
    rw [hp] at hp'
    obtain rfl := Option.some.inj hp'
    exact hi b q hb hq e
  · exact h a b p' q (by omega) hb hp' hq e
theorem OneI.snoc {l : List PatV} {p q : PatV} {j : Nat} (h : OneI l p j) (hq : l[j]? = some q) (hi : p.1 = q.1 → p = q) : OneI l p (j + 1) := fun b q' hb hq' e => by
  by_cases hk : b = j
  · subst hk
    rw [hq] at hq'
    obtain rfl := Option.some.inj hq'
    exact hi e
  · exact h b q' (by omega) hq' e
theorem OneN.all {l : List PatV} (h : OneN l l.length) : ∀ p ∈ l, ∀ q ∈ l, p.1 = q.1 → p = q := fun p hp q hq e => by
  obtain ⟨a, ha⟩ := List.mem_iff_getElem?.1 hp
  obtain ⟨b, hb⟩ := List.mem_iff_getElem?.1 hq
  have la := (List.getElem?_eq_some_iff.1 ha).1
  have lb := (List.getElem?_eq_some_iff.1 hb).1
  rcases Nat.lt_trichotomy b a with c | c | c
  · exact h a b p q la c ha hb e
  · subst c
    rw [ha] at hb
    exact Option.some.inj hb
  · exact (h b a q p lb c hb ha e.symm).symm
end Go.Proofs.YtfnhmbflmifhcaaGreat

/- What GraphWhole needs beside: comparisons, walked again; what is applied hangs together. -/
namespace Go.Proofs.YtfnhmbflmifhcaaGreat
open Go.RowKit

theorem veqV_iffQ (x y : VidV) : veqV (oldV x) (oldV y) = decide (x = y) := by
  unfold veqV oldV
  by_cases h : x = y
  · subst h; simp
  · rw [decide_eq_false h]
    simp only [Bool.and_eq_false_iff, decide_eq_false_iff_not]
    by_cases h1 : ((x.1.1.val : Nat) : Int) = ((y.1.1.val : Nat) : Int)
    · by_cases h2 : ((x.1.2.val : Nat) : Int) = ((y.1.2.val : Nat) : Int)
      · exact .inr fun h3 => h (Prod.ext (Prod.ext (fin_eq h1) (fin_eq h2)) (fin_eq h3))
      · exact .inl (.inr h2)
    · exact .inl (.inl h1)
theorem goodO_edge {id : PidV} {i : Int} {o : OpV} (h : goodO id i o = true) (hk : o.1.val = 4) : o.2.1 ≠ o.2.2.1 := by
  intro he
  unfold goodO opGood at h
  rw [Bool.and_eq_true] at h
  have h2 := h.2
  unfold tailOk at h2
  rw [if_neg (by omega), if_neg (by omega), if_neg (by omega), if_pos (by omega), veqV_iffQ, decide_eq_true he] at h2
  simp at h2
theorem GrOk.refs {L : List PatV} (h : GrOk L) : ∀ p ∈ L, ∀ o ∈ p.2.2, refB (rawV L) o = true := by
  induction h with
  | nil => simp
  | @snoc L p hL h0 ih =>
    intro q hq o ho
    rcases List.mem_append.1 hq with hq | hq
    · exact refB_mono (fun v r hr => rawV_more hr p) (ih q hq o ho)
    · obtain rfl := List.mem_singleton.1 hq
      exact (grE_zero h0).2.2.2.2 o ho
theorem GrOk.edge {L : List PatV} (h : GrOk L) {e : EdgeV} (he : e ∈ edgesL L) : kindIs (rawV L) e.1 3 = true ∧ kindIs (rawV L) e.2 3 = true ∧ fileV L e.1 = fileV L e.2 ∧ e.1 ≠ e.2 := by
  obtain ⟨p, hp, o, ho, h4, rfl⟩ := edgesOf_mem.1 ((setK_mem keyE_inj _ _).1 he)
  have hr := h.refs p hp o ho
  unfold refB at hr
  rw [if_neg (by omega), if_neg (by omega), if_pos h4, Bool.and_eq_true, Bool.and_eq_true, decide_eq_true_eq] at hr
  refine ⟨hr.1, hr.2.1, hr.2.2, ?_⟩
  obtain ⟨k, hk⟩ := List.getElem?_of_mem ho
  exact goodO_edge (oneR_parts ((patB_parts (h.good p hp)).2.2.2 k o hk)).1 h4
end Go.Proofs.YtfnhmbflmifhcaaGreat

/- What is applied hangs together: the statement walked. -/
namespace Go.Proofs.YtfnhmbflmifhcaaGreat
open Go.RowKit

/-- a graph is handed back that is the call's own -/
def RetBuilt (w : World) (L : List PatV) (e : Ending) (w' : World) : Prop := ∃ F g, e = .returned (.pointer (some ⟨g, 0, none⟩)) ∧ GraphAt w' F g L ∧ (∀ k, F k → w.heap.size ≤ k) ∧ Below w.heap.size w w'
set_option maxRecDepth 100000 in
set_option maxHeartbeats 4000000 in
theorem build20_any (w : World) (l : List PatV) (A : Option Addr) (n c : Nat) (hm : n ≤ maxLen) (h : PatsAt w A n l) : Calls Tryz.prog 18 #[.slice A n c] w (RetBuilt w (runG [] l)) := by
  have H0 := Lib.hid h
  have hln := Lib.hid h.len
  unfold maxLen at hm
  clear h
  go_enter Tryz.func18, Tryz.ntmps18
  go_wp2_with fail
  refine (new20_any _).mono ?_
  rintro e w4 ⟨F, g, rfl, hA, hF, b4⟩
  have GA := Lib.hid hA
  have B4 := Lib.hid b4
  have hFw := Lib.hid hF
  clear hA hF b4
  go_wp2_with fail
  go_loopw [4] (fun i wr => ∃ s : Nat, s ≤ n ∧ i = .int .i64 s ∧ Hid (GraphAt wr F g (runG [] (l.take s))) ∧ Hid (Below w.heap.size w wr)) (fun i _ => n - (intOf i).toNat)
  case atStart => exact ⟨0, by omega, rfl, GA.out, B4.out⟩
  case round =>
    clear GA B4
    obtain ⟨s, hs, rfl, GA, B⟩ := hrel
    obtain ⟨wi, rfl⟩ : ∃ wx, wx = wr := ⟨_, rfl⟩
    have hs0 : (0 : Int) ≤ (s : Int) := by omega
    by_cases hst : s < n
    · have hsk : (s : Int) < (n : Int) := by omega
      obtain ⟨b, o, p, r, rfl, hb, hp, pa, R⟩ := H0.out.at_ hst
      have PI := Lib.hid (pa.in_.ext B.out)
      have RP := Lib.hid (rangeAt_below R B.out hb)
      obtain ⟨⟨A1, c1, A2, c2, rfl, _, _⟩, _, _⟩ := pa
      have LP := Lib.hid (runG_snoc [] hp)
      have hA1 := Lib.hid (apply20_any GA.out p _ PI.out (fun x (h1 : x < w.heap.size) h2 => Nat.not_lt.2 (hFw.out x h2) h1))
      clear R hb hp
      go_wp2_with (refine wpList_load_mid rfl 37 _ (by rfl) b (o + s * 4) (by rfl) _ _ RP.out underPat rfl infoPat ?_)
      refine hA1.out.mono ?_
      rintro e w6 ⟨rfl, kp, hG⟩
      have GA6 := Lib.hid hG
      have B6 := Lib.hid (B.out.trans (kp.below (B := w.heap.size) hFw.out B.out.size))
      clear hG kp hA1 GA RP PI B
      go_wp2_with fail
      go_roundw
      case rel => exact ⟨s + 1, by omega, by go_num, by rw [LP.out]; exact GA6.out, B6.out⟩
      case measure => simp [intOf]; omega
    · have hsk : ¬ (s : Int) < (n : Int) := by omega
      have GA7 : Hid (GraphAt wi F g (runG [] l)) := by
        have h1 := GA.out
        rw [List.take_of_length_le (by rw [hln.out]; omega)] at h1
        exact h1
      clear GA
      go_wp2
      go_ret
      exact ⟨F, g, rfl, GA7.out, hFw.out, B.out⟩
end Go.Proofs.YtfnhmbflmifhcaaGreat
