/- What happens to a log, told by its patches. -/
import Derived.Test.YtdafiipedlglpaaGreatDoorLogz
namespace Go.Proofs.YtdafiipedlglpaaGreatDoor
open Go.RowKit

theorem ends_snocP (ps : List PatV) (p : PatV) : endsL (withLen (ps ++ [p])) = endsL (withLen ps) ++ [(framesB ps).length + flen p] := by
  rw [withLen_append, frames_len]
  exact endsL_snoc (withLen ps) (p, flen p)
theorem len_goods {ps : List PatV} (hg : ∀ p ∈ ps, patB p = true) (hn : ps.length ≤ 40) : (framesB ps).length ≤ 900000 := by
  have := frames_le30 ps hg
  omega
theorem ends_goods {ps : List PatV} (hn : ps.length ≤ 40) : (endsL (withLen ps)).length ≤ 1000 := by
  rw [endsL_len, withLen_length]
  omega
/-- what a crash leaves: the first patches -/
theorem crash30 {ps : List PatV} (hg : ∀ p ∈ ps, patB p = true) (m : Nat) : ∃ qs : List PatV, (∀ p ∈ qs, patB p = true) ∧ qs.length ≤ ps.length ∧ (readL ((framesB ps).take m) = withLen qs ∧ ((framesB ps).take m).take (sumLen (withLen qs)) = framesB qs) ∧
    ∃ k, k ≤ ps.length ∧ qs = ps.take k ∧ (k = ps.length ∨ m < sumLen ((withLen ps).take (k + 1))) := by
  obtain ⟨k, h1, h2, h3⟩ := readL_crash ps m hg
  obtain ⟨qs, q1, q2, q3, q4⟩ := readL_told ((framesB ps).take m)
  have e : qs = ps.take k := by
    have h := congrArg (List.map (·.1)) (q1.symm.trans h2)
    rw [withLen_fst, withLen_fst] at h
    exact h
  refine ⟨qs, q2, ?_, ⟨q1, ?_⟩, k, h1, e, h3⟩
  · rw [e, List.length_take]
    omega
  · rw [q1] at q4
    exact q4
theorem whole30 {ps : List PatV} (hg : ∀ p ∈ ps, patB p = true) : readL (framesB ps) = withLen ps ∧ (framesB ps).take (sumLen (withLen ps)) = framesB ps := by
  refine ⟨readL_all hg, ?_⟩
  rw [← frames_len, List.take_length]
theorem logAppendP {w : World} {F : Nat → Prop} {lb d s : Nat} {ps : List PatV} (h : LogAt w F lb d (framesB ps) (endsL (withLen ps)) s) (hg : ∀ p ∈ ps, patB p = true) (hn : ps.length ≤ 40) (p : PatV) (cs : List Value) (hp : PatAt w cs p) (hFo : FourOk w) :
    Calls Tryz.prog 30 #[.pointer (some ⟨lb, 0, none⟩), .agg cs.toArray] w (fun e w' => (patB p = true → LgRet w F lb d (framesB (ps ++ [p])) (endsL (withLen (ps ++ [p]))) s (.int .i64 0) e w') ∧ (patB p = false → e = .returned (.int .i64 1) ∧ Below w.heap.size w w')) := by
  have h1 := logAppend_any h (len_goods hg hn) (ends_goods hn) p cs hp hFo
  rw [frames_snoc, ends_snocP]
  exact h1
theorem logSureP {w : World} {F : Nat → Prop} {lb d s : Nat} {ps : List PatV} (h : LogAt w F lb d (framesB ps) (endsL (withLen ps)) s) (hg : ∀ p ∈ ps, patB p = true) (hn : ps.length ≤ 40) :
    Calls Tryz.prog 41 #[.pointer (some ⟨lb, 0, none⟩)] w (RetB w (.int .i64 ((sureN (withLen ps) s : Nat) : Int))) :=
  logSure_any h (endsL_sorted _) (by have := len_goods hg hn; omega) (ends_goods hn)
theorem logLenP {w : World} {F : Nat → Prop} {lb d s : Nat} {ps : List PatV} (h : LogAt w F lb d (framesB ps) (endsL (withLen ps)) s) :
    Calls Tryz.prog 40 #[.pointer (some ⟨lb, 0, none⟩)] w (Ret w (.int .i64 ((ps.length : Nat) : Int))) := by
  have h1 := logLen_any h
  rw [endsL_len, withLen_length] at h1
  exact h1
def OpnP (w : World) (F : Nat → Prop) (d : Nat) (qs : List PatV) (n : Nat) (e : Ending) (w' : World) : Prop :=
  ∃ (lb : Nat) (A : Option Addr) (c : Nat) (E G : Nat → Prop), e = .returned (.tuple #[.pointer (some ⟨lb, 0, none⟩), .slice A n c]) ∧ Kept F w w' ∧ LogAt w' E lb d (framesB qs) (endsL (withLen qs)) (framesB qs).length ∧ OwnG G w' (.slice A n c) qs ∧ PatsAt w' A n qs ∧
    (∀ k, E k → F k ∨ w.heap.size ≤ k) ∧ ∀ k, G k → w.heap.size ≤ k ∧ k < w'.heap.size ∧ ¬ E k
theorem logOpenP {w : World} {F : Nat → Prop} {d s : Nat} {b : List UInt8} {qs : List PatV} {n : Nat} (hn : qs.length = n) (h : DiskAt w F d b s) (hl : b.length ≤ 900000) (hFo : FourOk w) (hr : readL b = withLen qs ∧ b.take (sumLen (withLen qs)) = framesB qs) :
    Calls Tryz.prog 28 #[.pointer (some ⟨d, 0, none⟩)] w (OpnP w F d qs n) := by
  subst hn
  refine (logOpen_any h hl hFo).mono ?_
  rintro e w' ⟨lb, v, E, G, rfl, kp, LA, OG, hE, hG⟩
  rw [hr.1, withLen_fst] at OG
  rw [hr.1, hr.2, ← frames_len] at LA
  obtain ⟨A, c, rfl, -⟩ := OG.slice
  exact ⟨lb, A, c, E, G, rfl, kp, LA, OG, OG.pats, hE, hG⟩
theorem rsureP {ps : List PatV} {s : Nat} (hg : ∀ p ∈ ps, patB p = true) (hn : ps.length ≤ 40) (hs : s ≤ (framesB ps).length) (w : World) :
    Calls Tryz.prog 42 #[.agg (rdV (framesB ps) s)] w (RetB w (.int .i64 ((sureN (withLen ps) s : Nat) : Int))) := by
  have h1 := rsure30_any (framesB ps) s w (len_goods hg hn) (by have := len_goods hg hn; omega)
  rw [readL_all hg] at h1
  exact h1
theorem ropenP {b : List UInt8} {qs : List PatV} {n : Nat} (hn : qs.length = n) (s : Nat) (w : World) (hl : b.length ≤ 900000) (hr : readL b = withLen qs ∧ b.take (sumLen (withLen qs)) = framesB qs) :
    Calls Tryz.prog 35 #[.agg (rdV b s)] w (fun e w' => ∃ A c, e = .returned (.tuple #[.agg (rdV (framesB qs) (framesB qs).length), .slice A n c]) ∧ Below w.heap.size w w' ∧ PatsIn w' (fun k => w.heap.size ≤ k ∧ k < w'.heap.size) A n qs) := by
  subst hn
  refine (ropen30_any b s w hl).mono ?_
  rintro e w' ⟨v, rfl, hb, oc⟩
  rw [hr.1, withLen_fst] at oc
  obtain ⟨A, c, rfl, -⟩ := oc.slice
  refine ⟨A, c, ?_, hb, oc.pats⟩
  rw [hr.1, hr.2, ← frames_len]
theorem rappendP {ps : List PatV} (s : Nat) (hg : ∀ p ∈ ps, patB p = true) (hn : ps.length ≤ 40) (p : PatV) (hp : patB p = true) (w : World) (cs : List Value) (h : PatAt w cs p) :
    Calls Tryz.prog 31 #[.agg (rdV (framesB ps) s), .agg cs.toArray] w (RetB w (.agg (rdV (framesB (ps ++ [p])) s))) := by
  rw [frames_snoc]
  exact rappend30_any (framesB ps) s p hp w cs h (len_goods hg hn)
theorem good_snoc {ps : List PatV} {p : PatV} (hg : ∀ q ∈ ps, patB q = true) (hp : patB p = true) : ∀ q ∈ ps ++ [p], patB q = true := by
  intro q hq
  rcases List.mem_append.1 hq with h | h
  · exact hg q h
  · rw [List.mem_singleton.1 h]
    exact hp
theorem keepN_le {l s : Nat} (h : s ≤ l) (x : Int) : s ≤ keepN l s x ∧ keepN l s x ≤ l := by
  unfold keepN
  omega
theorem sureN_len {ps : List PatV} {s : Nat} (h : (framesB ps).length ≤ s) : sureN (withLen ps) s = ps.length := by
  rw [sureN_all (by rw [← frames_len]; exact h), withLen_length]
end Go.Proofs.YtdafiipedlglpaaGreatDoor
