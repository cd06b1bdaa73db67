/- The statement on the peers' plays: walked. -/
import Derived.Test.YtlebhalaodmkhaaPlaye
import Derived.Test.YtlebhalaodmkhaaTail
import Derived.Deep.RegionHeld3
import Derived.Deep.DeepCutAuto
namespace Go.Proofs.Ytlebhalaodmkhaa
open Go.RowKit

theorem new_ex (sf a1 a2 : Int) (hs : 0 ≤ sf ∧ sf < 256) (w : World) :
    Calls Try.prog 18 #[.int .u8 sf, .int .i64 a1, .int .i64 a2] w (fun e w' => ∃ b, e = .returned (.pointer (some ⟨b, 0, none⟩)) ∧ PeersAt w' b sf (clamp a1 64) (clamp a2 8) (List.replicate 65 0) ∧ w.heap.size ≤ b ∧ Below w.heap.size w w') :=
  (new_any sf a1 a2 w).mono fun e w' ⟨he, hw⟩ => ⟨w.heap.size, he, by rw [hw]; exact PeersAt.new w sf a1 a2 hs, Nat.le_refl _, by rw [hw]; exact below_new _ _⟩

/-- the two sides of a play -/
structure PlayAt (w0 wr : World) (b g : Nat) (sf nd pat : Int) (wait : List Int) (A A' : Option Addr) (c c' : Nat) : Prop where
  peers : PeersAt wr b sf nd pat wait
  ref : Blk wr g 46 #[.slice A (peersL sf nd.toNat).length c, .slice A' (ticksL sf nd.toNat wait).length c', .int .i64 pat]
  sl : Sl wr wr.heap.size 1 A (peersL sf nd.toNat).length ((peersL sf nd.toNat).map (Value.int .u8))
  sl' : Sl wr wr.heap.size 1 A' (ticksL sf nd.toNat wait).length ((ticksL sf nd.toNat wait).map (Value.int .i64))
  ne : b ≠ g
  far : ∀ a, A = some a → a.block ≠ b ∧ a.block ≠ g
  far' : ∀ a, A' = some a → a.block ≠ b ∧ a.block ≠ g
  below : Below w0.heap.size w0 wr
  lb : w0.heap.size ≤ b
  lg : w0.heap.size ≤ g

section
variable {w0 wr wr' : World} {b g : Nat} {sf nd pat : Int} {wait wait' : List Int} {A A' : Option Addr} {c c' : Nat}
theorem PlayAt.ext (h : PlayAt w0 wr b g sf nd pat wait A A' c c') (hb : Below wr.heap.size wr wr') : PlayAt w0 wr' b g sf nd pat wait A A' c c' :=
  ⟨h.peers.below hb h.peers.lt, h.ref.ext hb, h.sl.up hb (Nat.le_refl _), h.sl'.up hb (Nat.le_refl _), h.ne, h.far, h.far', ext_trans h.below hb, h.lb, h.lg⟩
theorem PlayAt.drewN (h : PlayAt w0 wr b g sf nd pat wait A A' c c') (k : Nat) : PlayAt w0 (wr.drewN k) b g sf nd pat wait A A' c c' := h.ext (below_drewN (Below.refl _ _) k)
/-- the program's side has turned, the document's not yet -/
structure HalfAt (w0 wr : World) (b g : Nat) (sf nd pat : Int) (wait wait' : List Int) (A A' : Option Addr) (c c' : Nat) : Prop where
  peers : PeersAt wr b sf nd pat wait'
  ref : Blk wr g 46 #[.slice A (peersL sf nd.toNat).length c, .slice A' (ticksL sf nd.toNat wait).length c', .int .i64 pat]
  sl : Sl wr wr.heap.size 1 A (peersL sf nd.toNat).length ((peersL sf nd.toNat).map (Value.int .u8))
  sl' : Sl wr wr.heap.size 1 A' (ticksL sf nd.toNat wait).length ((ticksL sf nd.toNat wait).map (Value.int .i64))
  ne : b ≠ g
  far : ∀ a, A = some a → a.block ≠ b ∧ a.block ≠ g
  below : Below w0.heap.size w0 wr
  lb : w0.heap.size ≤ b
  lg : w0.heap.size ≤ g
  hw : wait.length = 65 ∧ ∀ v ∈ wait, 0 ≤ v ∧ v ≤ 8
theorem PlayAt.half (h : PlayAt w0 wr b g sf nd pat wait A A' c c') (hp : PeersAt wr' b sf nd pat wait') (hg : wr.grownBy wr' (some b)) : HalfAt w0 wr' b g sf nd pat wait wait' A A' c c' := by
  have key : ∀ {B : Option Addr} {n : Nat} {xs : List Value}, Sl wr wr.heap.size 1 B n xs → (∀ a, B = some a → a.block ≠ b) → Sl wr' wr'.heap.size 1 B n xs := fun {B n xs} hs hB =>
    ⟨hs.1, fun hn => by
      obtain ⟨q, o, e, hq, hc⟩ := hs.2 hn
      refine ⟨q, o, e, Nat.lt_of_lt_of_le hq hg.size, fun j hj => ?_⟩
      rw [← hc j hj]
      exact World.cell?_of_block (hg.block q hq (fun e' => hB _ e (by injection e')))⟩
  refine ⟨hp, (hg.block g h.ref.lt (fun e => h.ne (by injection e with e; exact e.symm))).trans h.ref, key h.sl (fun a ha => (h.far a ha).1), key h.sl' (fun a ha => (h.far' a ha).1), h.ne, h.far, ?_, h.lb, h.lg, h.peers.len, h.peers.hwait⟩
  exact ⟨hg.os.trans h.below.os, hg.tape.trans h.below.tape, hg.output.trans h.below.output, Nat.le_trans h.below.size hg.size, fun i hi => (hg.block i (Nat.lt_of_lt_of_le hi h.below.size) (fun e => by have := h.lb; injection e with e; omega)).trans (h.below.block i hi)⟩
/-- .. and now the document's too -/
theorem HalfAt.whole (h : HalfAt w0 wr b g sf nd pat wait wait' A A' c c') {A2 : Option Addr} {c2 : Nat} (hb : Below wr.heap.size wr wr') (hs : Sl wr' wr'.heap.size 1 A2 (ticksL sf nd.toNat wait').length ((ticksL sf nd.toNat wait').map (Value.int .i64))) (hA : ∀ a, A2 = some a → wr.heap.size ≤ a.block) :
    PlayAt w0 (((wr'.setCell ⟨g, 0, none⟩ (.slice A (peersL sf nd.toNat).length c)).setCell ⟨g, 1, none⟩ (.slice A2 (ticksL sf nd.toNat wait').length c2)).setCell ⟨g, 2, none⟩ (.int .i64 pat)) b g sf nd pat wait' A A2 c c2 := by
  have hlb := h.peers.lt
  have hlg := h.ref.lt
  have n1 : ∀ a, A = some a → a.block ≠ g := fun a ha => (h.far a ha).2
  have n2 : ∀ a, A2 = some a → a.block ≠ g := fun a ha => by have := hA a ha; omega
  refine ⟨((((h.peers.below hb hlb).far (p := ⟨g, 0, none⟩) h.ne _).far (p := ⟨g, 1, none⟩) h.ne _).far (p := ⟨g, 2, none⟩) h.ne _), ?_, ?_, ?_, h.ne, h.far, fun a ha => ⟨by have := hA a ha; omega, n2 a ha⟩, (((ext_trans h.below hb).setCell (p := ⟨g, 0, none⟩) h.lg _).setCell (p := ⟨g, 1, none⟩) h.lg _).setCell (p := ⟨g, 2, none⟩) h.lg _, h.lb, h.lg⟩
  · have := (((h.ref.ext hb).set_ 0 (.slice A (peersL sf nd.toNat).length c)).set_ 1 (.slice A2 (ticksL sf nd.toNat wait').length c2)).set_ 2 (.int .i64 pat)
    simpa using this
  · refine ((((h.sl.up hb (Nat.le_refl _)).farCell (p := ⟨g, 0, none⟩) n1 _).farCell (p := ⟨g, 1, none⟩) n1 _).farCell (p := ⟨g, 2, none⟩) n1 _).more ?_
    simp [World.setCell]
  · refine (((hs.farCell (p := ⟨g, 0, none⟩) n2 _).farCell (p := ⟨g, 1, none⟩) n2 _).farCell (p := ⟨g, 2, none⟩) n2 _).more ?_
    simp [World.setCell]
end
section
variable {w0 wc w3 : World} {b g : Nat} {sf nd pat : Int} {A1 A2 : Option Addr} {c1 c2 : Nat}
theorem play_set (hp : PeersAt wc b sf nd pat (List.replicate 65 0)) (hb : Below wc.heap.size wc w3) (hk : Below w0.heap.size w0 w3) (hB : Blk w3 g 46 #[.slice none 0 0, .slice none 0 0, .int .i64 0]) (hg : g < wc.heap.size) (hbg : b ≠ g)
    (lb : w0.heap.size ≤ b) (lg : w0.heap.size ≤ g) (hs1 : Sl w3 w3.heap.size 1 A1 (peersL sf nd.toNat).length ((peersL sf nd.toNat).map (Value.int .u8))) (hs2 : Sl w3 w3.heap.size 1 A2 (peersL sf nd.toNat).length (((peersL sf nd.toNat).map fun _ => (0 : Int)).map (Value.int .i64)))
    (hf1 : ∀ a, A1 = some a → wc.heap.size ≤ a.block ∧ a.block < w3.heap.size) (hf2 : ∀ a, A2 = some a → wc.heap.size ≤ a.block ∧ a.block < w3.heap.size) :
    PlayAt w0 (((w3.setCell ⟨g, 0, none⟩ (.slice A1 (peersL sf nd.toNat).length c1)).setCell ⟨g, 1, none⟩ (.slice A2 (peersL sf nd.toNat).length c2)).setCell ⟨g, 2, none⟩ (.int .i64 pat)) b g sf nd pat (List.replicate 65 0) A1 A2 c1 c2 := by
  have n1 : ∀ a, A1 = some a → a.block ≠ g := fun a ha => by have := (hf1 a ha).1; omega
  have n2 : ∀ a, A2 = some a → a.block ≠ g := fun a ha => by have := (hf2 a ha).1; omega
  have hlt := hp.lt
  refine ⟨((((hp.below hb hlt).far (p := ⟨g, 0, none⟩) hbg _).far (p := ⟨g, 1, none⟩) hbg _).far (p := ⟨g, 2, none⟩) hbg _), ?_, ?_, ?_, hbg, fun a ha => ⟨by have := (hf1 a ha).1; omega, n1 a ha⟩, fun a ha => ⟨by have := (hf2 a ha).1; omega, n2 a ha⟩, ((hk.setCell (p := ⟨g, 0, none⟩) lg _).setCell (p := ⟨g, 1, none⟩) lg _).setCell (p := ⟨g, 2, none⟩) lg _, lb, lg⟩
  · rw [ticksL_len]
    have := ((hB.set_ 0 (.slice A1 (peersL sf nd.toNat).length c1)).set_ 1 (.slice A2 (peersL sf nd.toNat).length c2)).set_ 2 (.int .i64 pat)
    simpa using this
  · refine (((hs1.farCell (p := ⟨g, 0, none⟩) n1 _).farCell (p := ⟨g, 1, none⟩) n1 _).farCell (p := ⟨g, 2, none⟩) n1 _).more ?_
    simp [World.setCell]
  · rw [ticksL_len, ticksL_zero]
    refine (((hs2.farCell (p := ⟨g, 0, none⟩) n2 _).farCell (p := ⟨g, 1, none⟩) n2 _).farCell (p := ⟨g, 2, none⟩) n2 _).more ?_
    simp [World.setCell]
theorem play_alloc (hp : PeersAt wc b sf nd pat (List.replicate 65 0)) (hb : Below wc.heap.size wc w3) (hk : Below w0.heap.size w0 w3)
    (lb : w0.heap.size ≤ b) (hs1 : Sl w3 w3.heap.size 1 A1 (peersL sf nd.toNat).length ((peersL sf nd.toNat).map (Value.int .u8))) (hs2 : Sl w3 w3.heap.size 1 A2 (peersL sf nd.toNat).length (((peersL sf nd.toNat).map fun _ => (0 : Int)).map (Value.int .i64)))
    (hf1 : ∀ a, A1 = some a → wc.heap.size ≤ a.block ∧ a.block < w3.heap.size) (hf2 : ∀ a, A2 = some a → wc.heap.size ≤ a.block ∧ a.block < w3.heap.size) :
    PlayAt w0 (w3.alloc (.cells #[.slice A1 (peersL sf nd.toNat).length c1, .slice A2 (peersL sf nd.toNat).length c2, .int .i64 pat] 46)) b w3.heap.size sf nd pat (List.replicate 65 0) A1 A2 c1 c2 := by
  have hlt := hp.lt
  have hsz := hb.size
  refine ⟨(hp.below hb hlt).alloc _, ?_, hs1.up (below_new _ _) (Nat.le_refl _), ?_, by omega, fun a ha => ⟨by have := (hf1 a ha).1; omega, by have := (hf1 a ha).2; omega⟩, fun a ha => ⟨by have := (hf2 a ha).1; omega, by have := (hf2 a ha).2; omega⟩, ext_trans hk (below_new _ _), lb, hk.size⟩
  · rw [ticksL_len]; exact Blk.new _ _ _
  · rw [ticksL_len, ticksL_zero]; exact hs2.up (below_new _ _) (Nat.le_refl _)
end

theorem ticks_bd (sf : Int) (k : Nat) {wait : List Int} (h : ∀ v ∈ wait, 0 ≤ v ∧ v ≤ 8) : ∀ v ∈ ticksL sf k wait, 0 ≤ v ∧ v ≤ 8 := by
  intro v hv
  obtain ⟨n, _, rfl⟩ := List.mem_map.1 hv
  rw [List.getD_eq_getElem?_getD]
  rcases Nat.lt_or_ge n.toNat wait.length with hl | hl
  · rw [List.getElem?_eq_getElem hl]; exact h _ (List.getElem_mem hl)
  · rw [List.getElem?_eq_none hl]; exact ⟨by decide, by decide⟩
theorem freeP_eq (sf nd : Int) (wait : List Int) (n : Nat) : (isP sf nd n && decide (waitP sf nd wait n = 0)) = freeP sf nd wait n := by
  unfold waitP freeP
  cases isP sf nd n <;> simp
theorem at_act {w : World} {A : Option Addr} {m c : Nat} {rows : List (List Value)} (h : RowsAt [.int .u8, .int .u8] w A m c rows) {w0 : World} (hs : Sl w0 w0.heap.size 2 A m rows.flatten) {k : Nat} (hk : k < m) :
    ∃ (sb so kd n : Nat), A = some ⟨sb, so, none⟩ ∧ sb < w0.heap.size ∧ kd < 256 ∧ n < 256 ∧ w0.cell? ⟨sb, so + k * 2, none⟩ = some (.int .u8 kd) ∧ w0.cell? ⟨sb, so + k * 2 + 1, none⟩ = some (.int .u8 n) := by
  have hkl : k < rows.length := by rw [h.len]; exact hk
  obtain ⟨b, o, e, hb, hc⟩ := hs.2 (by omega)
  have hlen : ∀ x ∈ rows, x.length = 2 := fun x hx => (h.ok x hx).len
  have hrow := h.ok rows[k] (List.getElem_mem hkl)
  obtain ⟨v0, v1, hv⟩ : ∃ v0 v1, rows[k] = [v0, v1] := by
    have := hlen rows[k] (List.getElem_mem hkl)
    match hr : rows[k], this with
    | [a, b], _ => exact ⟨a, b, rfl⟩
  rw [hv] at hrow
  obtain ⟨⟨z0, rfl, h0⟩, ⟨z1, rfl, h1⟩, _⟩ := hrow
  have b0 := bounds_u8 h0
  have b1 := bounds_u8 h1
  obtain ⟨k0, rfl⟩ := Int.eq_ofNat_of_zero_le b0.1
  obtain ⟨k1, rfl⟩ := Int.eq_ofNat_of_zero_le b1.1
  have g : ∀ j, j < 2 → rows.flatten[k * 2 + j]? = ([.int .u8 (k0 : Int), .int .u8 (k1 : Int)] : List Value)[j]? := fun j hj => by
    rw [flatten_get rows hlen k j hj, List.getElem?_eq_getElem hkl, hv]; rfl
  refine ⟨b, o, k0, k1, e, hb, by omega, by omega, ?_, ?_⟩
  · have := hc (k * 2 + 0) (by omega); rw [g 0 (by omega)] at this; exact this
  · have := hc (k * 2 + 1) (by omega); rw [g 1 (by omega)] at this; rw [Nat.add_assoc]; exact this

set_option maxRecDepth 100000 in
set_option maxHeartbeats 4000000 in
theorem peersPlay_core (w : World) (a0 a1 a2 : Int) (A : Option Addr) (m c : Nat) (rows : List (List Value)) (hr : RowsAt [.int .u8, .int .u8] w A m c rows) (x : Int) (hx : 0 ≤ x ∧ x ≤ 18446744073709551615) :
    Calls Try.prog 9 #[.agg #[.int .i64 a0, .int .i64 a1, .int .i64 a2], .slice A m c, .int .u64 x] w (RetB w (.bool true)) := by
  have B0 : Hid (Below w.heap.size w (w.alloc (.cells #[.int .i64 a0, .int .i64 a1, .int .i64 a2] 41))) := below_new _ _
  have K0 : Hid (Blk (w.alloc (.cells #[.int .i64 a0, .int .i64 a1, .int .i64 a2] 41)) w.heap.size 41 #[.int .i64 a0, .int .i64 a1, .int .i64 a2]) := Blk.new _ _ _
  by_cases hm : (m : Int) > 60
  · go_enter Try.func9, Try.ntmps9
    go_wp2_with fail
    refine (works36 _).mono ?_
    rintro e w5 ⟨rfl, b5⟩
    go_wp2_with fail
    go_ret
    exact ⟨rfl, ext_trans B0.out b5⟩
  have hmd : decide ((m : Int) > 60) = false := decide_eq_false hm
  have SL := Lib.hid (hr.sl.up B0.out (Nat.le_refl _))
  have HR := Lib.hid hr
  have hu := u8_bd a0
  have HN := Lib.hid (fun w1 => new_ex (IntKind.u8.wrap a0) a1 a2 hu w1)
  have HM := Lib.hid (fun w1 => rnew_any (IntKind.u8.wrap a0) a1 a2 w1 hu)
  clear hr
  go_enter Try.func9, Try.ntmps9
  go_upto_region 3 with fail
  generalize (w.alloc (.cells #[.int .i64 a0, .int .i64 a1, .int .i64 a2] 41)) = w0 at *
  go_cut [7, 8] (fun s7 s8 wx => ∃ b g A A' c c', s7 = .pointer (some ⟨b, 0, none⟩) ∧ s8 = .pointer (some ⟨g, 0, none⟩) ∧ PlayAt w0 wx b g (IntKind.u8.wrap a0) (clamp a1 64) (clamp a2 8) (List.replicate 65 0) A A' c c')
  case first =>
    have KS : Hid (∀ w', Below w0.heap.size w0 w' → (Below w0.heap.size w0 w' ∧ w'.cell? ⟨w.heap.size, 0, none⟩ = some (.int .i64 a0) ∧ w'.cell? ⟨w.heap.size, 1, none⟩ = some (.int .i64 a1) ∧ w'.cell? ⟨w.heap.size, 2, none⟩ = some (.int .i64 a2))) := fun w' h =>
      ⟨h, (K0.out.ext h).cell 0, (K0.out.ext h).cell 1, (K0.out.ext h).cell 2⟩
    clear K0 B0 SL HR
    go_region_held3 (fun w' => (Below w0.heap.size w0 w' ∧ w'.cell? ⟨w.heap.size, 0, none⟩ = some (.int .i64 a0) ∧ w'.cell? ⟨w.heap.size, 1, none⟩ = some (.int .i64 a1) ∧ w'.cell? ⟨w.heap.size, 2, none⟩ = some (.int .i64 a2)))
      (first | assumption | exact KS.out _ ((Below.refl _ _).drew) | (refine KS.out _ (ext_trans ?_ hb); go_split_ands; assumption) | (refine KS.out _ (ext_trans ?_ (below_new _ _)); go_split_ands; assumption) | exact KS.out _ (ext_trans hk (below_new _ _)) | (refine KS.out _ (((hk.setCell ?_ _).setCell ?_ _).setCell ?_ _) <;> first | (simp; done) | (simp; omega)) | exact KS.out _ (below_new _ _).drew | (trace_state; fail))
      (first
        | (go_at_call 18; refine (HN.out _).mono ?_; rintro e w3 ⟨b, rfl, hp, hlb, hb⟩; have hk : Below w0.heap.size w0 w3 := (by (refine ext_trans ?_ hb; go_split_ands; assumption)); have hz := hk.size; (try have hK := Blk.ext (show Blk (w0.alloc (.cells #[.slice none 0 0, .slice none 0 0, .int .i64 0] 46)).drew w0.heap.size 46 #[.slice none 0 0, .slice none 0 0, .int .i64 0] from Blk.new w0 46 #[.slice none 0 0, .slice none 0 0, .int .i64 0]) hb))
        | (go_at_call 29; refine (HM.out _).mono ?_; rintro e w3 ⟨A1, A2, c1, c2, rfl, hs1, hs2, hb, hf1, hf2⟩; have hk : Below w0.heap.size w0 w3 := (by (refine ext_trans ?_ hb; go_split_ands; assumption)); have hz := hk.size; (first | have hK2 := Blk.ext (Blk.new _ 46 #[.slice none 0 0, .slice none 0 0, .int .i64 0]) hb | have hK2 := Blk.ext hK hb | skip); (try (have q0 := hK2.cell 0; have q1 := hK2.cell 1; have q2 := hK2.cell 2; have f0 := hK2.fr 0; have f1 := hK2.fr 1; have f2 := hK2.fr 2; simp at q0 q1 q2 f0 f1 f2))))
    all_goals (go_wp2_with fail; go_meet)
    · exact ⟨_, _, _, _, _, _, rfl, rfl, play_alloc hp hb hk (Nat.le_trans (by simp) hlb) hs1 hs2 hf1 hf2⟩
    · exact ⟨_, _, _, _, _, _, rfl, rfl, play_set (hp.alloc _) hb hk hK2 (by simp) (by have := hp.lt; omega) (Nat.le_trans (by simp) hlb) (by first | assumption | omega) hs1 hs2 hf1 hf2⟩
    · exact ⟨_, _, _, _, _, _, rfl, rfl, play_set hp hb hk hK2 hK.lt (by simp at hlb; omega) (by simp at hlb; omega) (Nat.le_refl _) hs1 hs2 hf1 hf2⟩
  case rest =>
    obtain ⟨b, g, A1, A2, c1, c2, rfl, rfl, hP⟩ := hcut
    have PA := Lib.hid hP
    clear hP HN HM hu
    generalize IntKind.u8.wrap a0 = sf at *
    generalize clamp a1 64 = nd at *
    generalize clamp a2 8 = pat at *
    go_wp2_with fail
    go_loopw [9] (fun z wr => ∃ (k : Nat) (wait : List Int) (A1 A2 : Option Addr) (c1 c2 : Nat), k ≤ m ∧ z = .int .i64 k ∧ PlayAt w0 wr b g sf nd pat wait A1 A2 c1 c2) (fun z _ => m - (intOf z).toNat)
    case atStart => exact ⟨0, _, A1, A2, c1, c2, by omega, rfl, PA.out⟩
    case round =>
      obtain ⟨k, wait, A1, A2, c1, c2, hk, rfl, hP⟩ := hrel
      clear PA
      have PA := Lib.hid hP
      clear hP
      by_cases hlt : k < m
      · obtain ⟨sb, so, kd, n, rfl, hsb, hkd, hn, hc0, hc1⟩ := at_act HR.out SL.out hlt
        have d0 : wr.cell? ⟨sb, so + k * 2, none⟩ = some (.int .u8 kd) := by rw [PA.out.below.cell (p := ⟨sb, so + k * 2, none⟩) hsb]; exact hc0
        have d1 : wr.cell? ⟨sb, so + k * 2 + 1, none⟩ = some (.int .u8 n) := by rw [PA.out.below.cell (p := ⟨sb, so + k * 2 + 1, none⟩) hsb]; exact hc1
        clear hc0 hc1
        have k0 : (0 : Int) ≤ (k : Int) := by omega
        have k1 : (k : Int) < (m : Int) := by omega
        have nd64 : nd.toNat ≤ 64 := by have := PA.out.peers.hnodes; omega
        have hnd : ((nd.toNat : Nat) : Int) = nd := by have := PA.out.peers.hnodes; omega
        have HND := Lib.hid hnd
        have LL : (peersL sf nd.toNat).length ≤ 100 := by have := (newFacts sf nd.toNat).len; omega
        clear hnd
        have TL := Lib.hid (ticksL_len sf nd.toNat wait)
        by_cases e0 : kd = 0
        · subst e0
          go_wp2_with fail
          refine (asked_any PA.out.peers n hn).mono ?_
          rintro e w2 ⟨rfl, p2, g2⟩
          have H := Lib.hid (PA.out.half p2 g2)
          have dd : w2.cell? ⟨sb, so + k * 2 + 1, none⟩ = some (.int .u8 n) := g2.cell d1 (by have := PA.out.lb; simp; omega)
          have r0 := H.out.ref.cell 0
          have r1 := H.out.ref.cell 1
          have r2 := H.out.ref.cell 2
          simp at r0 r1 r2
          have HS := Lib.hid (setT_eq sf nd.toNat wait n pat PA.out.peers.len nd64)
          rw [HND.out] at HS
          clear p2 g2 d0 d1 PA
          go_wp2_with fail
          refine wp_region_drawn 6 (by kernel_rfl) (by kernel_rfl) ?_
          simp only [List.take_succ_cons, List.take_zero, List.drop_succ_cons, List.drop_zero]
          repeat go_big_quiet_step (fail)
          refine wpQuiet_nil ?_
          rintro _ ⟨nq, rfl⟩
          go_wp2_with fail
          have RA := rasked_any (peersL sf nd.toNat) (ticksL sf nd.toNat wait) A1 A2 c1 c2 pat n (w2.drewN nq) (show Sl (w2.drewN nq) _ 1 _ _ _ from H.out.sl) (show Sl (w2.drewN nq) _ 1 _ _ _ from H.out.sl') TL.out.symm LL
          rw [HS.out] at RA
          refine RA.mono ?_
          rintro e w3 ⟨A3, c3, rfl, hs, hb, hA⟩
          have hb' : Below w2.heap.size w2 w3 := ⟨hb.os, hb.tape, hb.output, hb.size, hb.block⟩
          have W := Lib.hid (H.out.whole (A2 := A3) (c2 := c3) hb' hs hA)
          have G := H.out.ref.ext hb'
          have s0 := G.cell 0
          have s1 := G.cell 1
          have s2 := G.cell 2
          have f0 := G.fr 0
          have f1 := G.fr 1
          have f2 := G.fr 2
          simp at s0 s1 s2
          have dd' : w3.cell? ⟨sb, so + k * 2 + 1, none⟩ = some (.int .u8 n) := by rw [hb'.cell (p := ⟨sb, so + k * 2 + 1, none⟩) (by have := H.out.below.size; show sb < w2.heap.size; omega)]; exact dd
          clear RA r0 r1 r2 dd H hs hb hA hb' G HS
          go_wp2_with fail
          have dd2 : (((w3.setCell ⟨g, 0, none⟩ (.slice A1 (peersL sf nd.toNat).length c1)).setCell ⟨g, 1, none⟩ (.slice A3 (ticksL sf nd.toNat (setP sf nd wait n pat)).length c3)).setCell ⟨g, 2, none⟩ (.int .i64 pat)).cell? ⟨sb, so + k * 2 + 1, none⟩ = some (.int .u8 n) := by
            have hg := W.out.lg
            rw [World.cell?_setCell_other _ _ _ _ (by intro e; injection e with e; omega), World.cell?_setCell_other _ _ _ _ (by intro e; injection e with e; omega), World.cell?_setCell_other _ _ _ _ (by intro e; injection e with e; omega)]; exact dd'
          generalize (((w3.setCell ⟨g, 0, none⟩ (.slice A1 (peersL sf nd.toNat).length c1)).setCell ⟨g, 1, none⟩ (.slice A3 (ticksL sf nd.toNat (setP sf nd wait n pat)).length c3)).setCell ⟨g, 2, none⟩ (.int .i64 pat)) = w4 at *
          generalize setP sf nd wait n pat = wait2 at *
          clear s0 s1 s2 f0 f1 f2 dd'
          have T2 := Lib.hid (ticksL_len sf nd.toNat wait2)
          have C1 := Lib.hid (fun z : Ext w4 => wait_any (W.out.peers.below z.h W.out.peers.lt) n hn)
          have C2 : Hid (∀ z : Ext w4, Calls Try.prog 37 #[refC A1 A3 (peersL sf nd.toNat).length (ticksL sf nd.toNat wait2).length c1 c3 pat, .int .u8 (n : Int)] z.w (RetB z.w (.int .i64 (waitP sf nd wait2 n)))) := by
            intro z
            rw [← HND.out, ← waitL_eq, HND.out]
            exact (rwait_any (peersL sf nd.toNat) (ticksL sf nd.toNat wait2) A1 A3 c1 c3 pat n z.w (W.out.sl.up z.h (Nat.le_refl _)) (W.out.sl'.up z.h (Nat.le_refl _)) T2.out.symm LL)
          have C3 := Lib.hid (fun z : Ext w4 => free_any (W.out.peers.below z.h W.out.peers.lt) n hn)
          have C4 : Hid (∀ z : Ext w4, Calls Try.prog 39 #[refC A1 A3 (peersL sf nd.toNat).length (ticksL sf nd.toNat wait2).length c1 c3 pat, .int .u8 (n : Int)] z.w (RetB z.w (.bool (freeP sf nd wait2 n)))) := by
            intro z
            rw [← freeP_eq, ← HND.out, ← waitL_eq, ← isL_eq, HND.out]
            exact (rfree_any (peersL sf nd.toNat) (ticksL sf nd.toNat wait2) A1 A3 c1 c3 pat n z.w (W.out.sl.up z.h (Nat.le_refl _)) (W.out.sl'.up z.h (Nat.le_refl _)) T2.out.symm LL)
          have q0 : ∀ z : Ext w4, z.w.cell? ⟨g, 0, none⟩ = some (.slice A1 (peersL sf nd.toNat).length c1) := fun z => (W.out.ref.ext z.h).cell 0
          have q1 : ∀ z : Ext w4, z.w.cell? ⟨g, 1, none⟩ = some (.slice A3 (ticksL sf nd.toNat wait2).length c3) := fun z => (W.out.ref.ext z.h).cell 1
          have q2 : ∀ z : Ext w4, z.w.cell? ⟨g, 2, none⟩ = some (.int .i64 pat) := fun z => (W.out.ref.ext z.h).cell 2
          have q3 : ∀ z : Ext w4, z.w.cell? ⟨sb, so + k * 2 + 1, none⟩ = some (.int .u8 n) := fun z => by
            rw [z.h.cell (p := ⟨sb, so + k * 2 + 1, none⟩) (by have := W.out.below.size; show sb < w4.heap.size; omega)]; exact dd2
          generalize waitP sf nd wait2 n = wv at *
          generalize freeP sf nd wait2 n = fv at *
          clear dd2
          refine wp_region_ext (by kernel_rfl) (by kernel_rfl) ?_
          repeat (first
            | go_big_quiet_skip
            | go_big_quiet_step ((first | (go_at_call 36; with_reducible exact ext_ret (C1.out _)) | (go_at_call 37; with_reducible exact ext_call (C2.out _)) | (go_at_call 38; with_reducible exact ext_ret (C3.out _)) | (go_at_call 39; with_reducible exact ext_call (C4.out _)))))
          refine wpQuiet_nil ?_
          rintro _ ⟨z, rfl⟩
          have W2 := Lib.hid (W.out.ext z.h)
          go_wp2
          go_roundw
          case rel => exact ⟨k + 1, _, _, _, _, _, by omega, by go_num, W2.out⟩
          case measure => simp [intOf]; omega
        · have e0d : ((kd : Int) == 0) = false := beq_eq_false_iff_ne.2 (by omega)
          by_cases e1 : kd = 1
          · subst e1
            go_wp2_with fail
            refine (heard_any PA.out.peers n hn).mono ?_
            rintro e w2 ⟨rfl, p2, g2⟩
            have H := Lib.hid (PA.out.half p2 g2)
            have dd : w2.cell? ⟨sb, so + k * 2 + 1, none⟩ = some (.int .u8 n) := g2.cell d1 (by have := PA.out.lb; simp; omega)
            have r0 := H.out.ref.cell 0
            have r1 := H.out.ref.cell 1
            have r2 := H.out.ref.cell 2
            simp at r0 r1 r2
            have HS := Lib.hid (setT_eq sf nd.toNat wait n 0 PA.out.peers.len nd64)
            rw [HND.out] at HS
            clear p2 g2 d0 d1 PA
            go_wp2_with fail
            refine wp_region_drawn 6 (by kernel_rfl) (by kernel_rfl) ?_
            simp only [List.take_succ_cons, List.take_zero, List.drop_succ_cons, List.drop_zero]
            repeat go_big_quiet_step (fail)
            refine wpQuiet_nil ?_
            rintro _ ⟨nq, rfl⟩
            go_wp2_with fail
            have RA := rheard_any (peersL sf nd.toNat) (ticksL sf nd.toNat wait) A1 A2 c1 c2 pat n (w2.drewN nq) (show Sl (w2.drewN nq) _ 1 _ _ _ from H.out.sl) (show Sl (w2.drewN nq) _ 1 _ _ _ from H.out.sl') TL.out.symm LL
            rw [HS.out] at RA
            refine RA.mono ?_
            rintro e w3 ⟨A3, c3, rfl, hs, hb, hA⟩
            have hb' : Below w2.heap.size w2 w3 := ⟨hb.os, hb.tape, hb.output, hb.size, hb.block⟩
            have W := Lib.hid (H.out.whole (A2 := A3) (c2 := c3) hb' hs hA)
            have G := H.out.ref.ext hb'
            have s0 := G.cell 0
            have s1 := G.cell 1
            have s2 := G.cell 2
            have f0 := G.fr 0
            have f1 := G.fr 1
            have f2 := G.fr 2
            simp at s0 s1 s2
            have dd' : w3.cell? ⟨sb, so + k * 2 + 1, none⟩ = some (.int .u8 n) := by rw [hb'.cell (p := ⟨sb, so + k * 2 + 1, none⟩) (by have := H.out.below.size; show sb < w2.heap.size; omega)]; exact dd
            clear RA r0 r1 r2 dd H hs hb hA hb' G HS
            go_wp2_with fail
            have dd2 : (((w3.setCell ⟨g, 0, none⟩ (.slice A1 (peersL sf nd.toNat).length c1)).setCell ⟨g, 1, none⟩ (.slice A3 (ticksL sf nd.toNat (setP sf nd wait n 0)).length c3)).setCell ⟨g, 2, none⟩ (.int .i64 pat)).cell? ⟨sb, so + k * 2 + 1, none⟩ = some (.int .u8 n) := by
              have hg := W.out.lg
              rw [World.cell?_setCell_other _ _ _ _ (by intro e; injection e with e; omega), World.cell?_setCell_other _ _ _ _ (by intro e; injection e with e; omega), World.cell?_setCell_other _ _ _ _ (by intro e; injection e with e; omega)]; exact dd'
            generalize (((w3.setCell ⟨g, 0, none⟩ (.slice A1 (peersL sf nd.toNat).length c1)).setCell ⟨g, 1, none⟩ (.slice A3 (ticksL sf nd.toNat (setP sf nd wait n 0)).length c3)).setCell ⟨g, 2, none⟩ (.int .i64 pat)) = w4 at *
            generalize setP sf nd wait n 0 = wait2 at *
            clear s0 s1 s2 f0 f1 f2 dd'
            have T2 := Lib.hid (ticksL_len sf nd.toNat wait2)
            have C1 := Lib.hid (fun z : Ext w4 => wait_any (W.out.peers.below z.h W.out.peers.lt) n hn)
            have C2 : Hid (∀ z : Ext w4, Calls Try.prog 37 #[refC A1 A3 (peersL sf nd.toNat).length (ticksL sf nd.toNat wait2).length c1 c3 pat, .int .u8 (n : Int)] z.w (RetB z.w (.int .i64 (waitP sf nd wait2 n)))) := by
              intro z
              rw [← HND.out, ← waitL_eq, HND.out]
              exact (rwait_any (peersL sf nd.toNat) (ticksL sf nd.toNat wait2) A1 A3 c1 c3 pat n z.w (W.out.sl.up z.h (Nat.le_refl _)) (W.out.sl'.up z.h (Nat.le_refl _)) T2.out.symm LL)
            have C3 := Lib.hid (fun z : Ext w4 => free_any (W.out.peers.below z.h W.out.peers.lt) n hn)
            have C4 : Hid (∀ z : Ext w4, Calls Try.prog 39 #[refC A1 A3 (peersL sf nd.toNat).length (ticksL sf nd.toNat wait2).length c1 c3 pat, .int .u8 (n : Int)] z.w (RetB z.w (.bool (freeP sf nd wait2 n)))) := by
              intro z
              rw [← freeP_eq, ← HND.out, ← waitL_eq, ← isL_eq, HND.out]
              exact (rfree_any (peersL sf nd.toNat) (ticksL sf nd.toNat wait2) A1 A3 c1 c3 pat n z.w (W.out.sl.up z.h (Nat.le_refl _)) (W.out.sl'.up z.h (Nat.le_refl _)) T2.out.symm LL)
            have q0 : ∀ z : Ext w4, z.w.cell? ⟨g, 0, none⟩ = some (.slice A1 (peersL sf nd.toNat).length c1) := fun z => (W.out.ref.ext z.h).cell 0
            have q1 : ∀ z : Ext w4, z.w.cell? ⟨g, 1, none⟩ = some (.slice A3 (ticksL sf nd.toNat wait2).length c3) := fun z => (W.out.ref.ext z.h).cell 1
            have q2 : ∀ z : Ext w4, z.w.cell? ⟨g, 2, none⟩ = some (.int .i64 pat) := fun z => (W.out.ref.ext z.h).cell 2
            have q3 : ∀ z : Ext w4, z.w.cell? ⟨sb, so + k * 2 + 1, none⟩ = some (.int .u8 n) := fun z => by
              rw [z.h.cell (p := ⟨sb, so + k * 2 + 1, none⟩) (by have := W.out.below.size; show sb < w4.heap.size; omega)]; exact dd2
            generalize waitP sf nd wait2 n = wv at *
            generalize freeP sf nd wait2 n = fv at *
            clear dd2
            refine wp_region_ext (by kernel_rfl) (by kernel_rfl) ?_
            repeat (first
              | go_big_quiet_skip
              | go_big_quiet_step ((first | (go_at_call 36; with_reducible exact ext_ret (C1.out _)) | (go_at_call 37; with_reducible exact ext_call (C2.out _)) | (go_at_call 38; with_reducible exact ext_ret (C3.out _)) | (go_at_call 39; with_reducible exact ext_call (C4.out _)))))
            refine wpQuiet_nil ?_
            rintro _ ⟨z, rfl⟩
            have W2 := Lib.hid (W.out.ext z.h)
            go_wp2
            go_roundw
            case rel => exact ⟨k + 1, _, _, _, _, _, by omega, by go_num, W2.out⟩
            case measure => simp [intOf]; omega
          · have e1d : ((kd : Int) == 1) = false := beq_eq_false_iff_ne.2 (by omega)
            by_cases e2 : kd = 2
            · subst e2
              go_wp2_with fail
              refine (tick_any PA.out.peers).mono ?_
              rintro e w2 ⟨rfl, p2, g2⟩
              have H := Lib.hid (PA.out.half p2 g2)
              have dd : w2.cell? ⟨sb, so + k * 2 + 1, none⟩ = some (.int .u8 n) := g2.cell d1 (by have := PA.out.lb; simp; omega)
              have r0 := H.out.ref.cell 0
              have r1 := H.out.ref.cell 1
              have r2 := H.out.ref.cell 2
              simp at r0 r1 r2
              have HS := Lib.hid (tickT_eq sf nd.toNat wait PA.out.peers.len nd64)
              have TB := Lib.hid (ticks_bd sf nd.toNat PA.out.peers.hwait)
              clear p2 g2 d0 d1 PA
              go_wp2_with fail
              have RA := rtick_any (peersL sf nd.toNat) (ticksL sf nd.toNat wait) A1 A2 c1 c2 pat w2 H.out.sl' TL.out.symm LL TB.out
              rw [HS.out] at RA
              refine RA.mono ?_
              rintro e w3 ⟨A3, c3, rfl, hs, hb, hA⟩
              have hb' : Below w2.heap.size w2 w3 := ⟨hb.os, hb.tape, hb.output, hb.size, hb.block⟩
              have W := Lib.hid (H.out.whole (A2 := A3) (c2 := c3) hb' hs hA)
              have G := H.out.ref.ext hb'
              have s0 := G.cell 0
              have s1 := G.cell 1
              have s2 := G.cell 2
              have f0 := G.fr 0
              have f1 := G.fr 1
              have f2 := G.fr 2
              simp at s0 s1 s2
              have dd' : w3.cell? ⟨sb, so + k * 2 + 1, none⟩ = some (.int .u8 n) := by rw [hb'.cell (p := ⟨sb, so + k * 2 + 1, none⟩) (by have := H.out.below.size; show sb < w2.heap.size; omega)]; exact dd
              clear RA r0 r1 r2 dd H hs hb hA hb' G HS
              go_wp2_with fail
              have dd2 : (((w3.setCell ⟨g, 0, none⟩ (.slice A1 (peersL sf nd.toNat).length c1)).setCell ⟨g, 1, none⟩ (.slice A3 (ticksL sf nd.toNat (wait.map tick1)).length c3)).setCell ⟨g, 2, none⟩ (.int .i64 pat)).cell? ⟨sb, so + k * 2 + 1, none⟩ = some (.int .u8 n) := by
                have hg := W.out.lg
                rw [World.cell?_setCell_other _ _ _ _ (by intro e; injection e with e; omega), World.cell?_setCell_other _ _ _ _ (by intro e; injection e with e; omega), World.cell?_setCell_other _ _ _ _ (by intro e; injection e with e; omega)]; exact dd'
              generalize (((w3.setCell ⟨g, 0, none⟩ (.slice A1 (peersL sf nd.toNat).length c1)).setCell ⟨g, 1, none⟩ (.slice A3 (ticksL sf nd.toNat (wait.map tick1)).length c3)).setCell ⟨g, 2, none⟩ (.int .i64 pat)) = w4 at *
              generalize wait.map tick1 = wait2 at *
              clear s0 s1 s2 f0 f1 f2 dd'
              have T2 := Lib.hid (ticksL_len sf nd.toNat wait2)
              have C1 := Lib.hid (fun z : Ext w4 => wait_any (W.out.peers.below z.h W.out.peers.lt) n hn)
              have C2 : Hid (∀ z : Ext w4, Calls Try.prog 37 #[refC A1 A3 (peersL sf nd.toNat).length (ticksL sf nd.toNat wait2).length c1 c3 pat, .int .u8 (n : Int)] z.w (RetB z.w (.int .i64 (waitP sf nd wait2 n)))) := by
                intro z
                rw [← HND.out, ← waitL_eq, HND.out]
                exact (rwait_any (peersL sf nd.toNat) (ticksL sf nd.toNat wait2) A1 A3 c1 c3 pat n z.w (W.out.sl.up z.h (Nat.le_refl _)) (W.out.sl'.up z.h (Nat.le_refl _)) T2.out.symm LL)
              have C3 := Lib.hid (fun z : Ext w4 => free_any (W.out.peers.below z.h W.out.peers.lt) n hn)
              have C4 : Hid (∀ z : Ext w4, Calls Try.prog 39 #[refC A1 A3 (peersL sf nd.toNat).length (ticksL sf nd.toNat wait2).length c1 c3 pat, .int .u8 (n : Int)] z.w (RetB z.w (.bool (freeP sf nd wait2 n)))) := by
                intro z
                rw [← freeP_eq, ← HND.out, ← waitL_eq, ← isL_eq, HND.out]
                exact (rfree_any (peersL sf nd.toNat) (ticksL sf nd.toNat wait2) A1 A3 c1 c3 pat n z.w (W.out.sl.up z.h (Nat.le_refl _)) (W.out.sl'.up z.h (Nat.le_refl _)) T2.out.symm LL)
              have q0 : ∀ z : Ext w4, z.w.cell? ⟨g, 0, none⟩ = some (.slice A1 (peersL sf nd.toNat).length c1) := fun z => (W.out.ref.ext z.h).cell 0
              have q1 : ∀ z : Ext w4, z.w.cell? ⟨g, 1, none⟩ = some (.slice A3 (ticksL sf nd.toNat wait2).length c3) := fun z => (W.out.ref.ext z.h).cell 1
              have q2 : ∀ z : Ext w4, z.w.cell? ⟨g, 2, none⟩ = some (.int .i64 pat) := fun z => (W.out.ref.ext z.h).cell 2
              have q3 : ∀ z : Ext w4, z.w.cell? ⟨sb, so + k * 2 + 1, none⟩ = some (.int .u8 n) := fun z => by
                rw [z.h.cell (p := ⟨sb, so + k * 2 + 1, none⟩) (by have := W.out.below.size; show sb < w4.heap.size; omega)]; exact dd2
              generalize waitP sf nd wait2 n = wv at *
              generalize freeP sf nd wait2 n = fv at *
              clear dd2
              refine wp_region_ext (by kernel_rfl) (by kernel_rfl) ?_
              repeat (first
                | go_big_quiet_skip
                | go_big_quiet_step ((first | (go_at_call 36; with_reducible exact ext_ret (C1.out _)) | (go_at_call 37; with_reducible exact ext_call (C2.out _)) | (go_at_call 38; with_reducible exact ext_ret (C3.out _)) | (go_at_call 39; with_reducible exact ext_call (C4.out _)))))
              refine wpQuiet_nil ?_
              rintro _ ⟨z, rfl⟩
              have W2 := Lib.hid (W.out.ext z.h)
              go_wp2
              go_roundw
              case rel => exact ⟨k + 1, _, _, _, _, _, by omega, by go_num, W2.out⟩
              case measure => simp [intOf]; omega
            · have e2d : ((kd : Int) == 2) = false := beq_eq_false_iff_ne.2 (by omega)
              go_wp2_with fail
              have T2 := Lib.hid (ticksL_len sf nd.toNat wait)
              have C1 := Lib.hid (fun z : Ext wr => wait_any (PA.out.peers.below z.h PA.out.peers.lt) n hn)
              have C2 : Hid (∀ z : Ext wr, Calls Try.prog 37 #[refC A1 A2 (peersL sf nd.toNat).length (ticksL sf nd.toNat wait).length c1 c2 pat, .int .u8 (n : Int)] z.w (RetB z.w (.int .i64 (waitP sf nd wait n)))) := by
                intro z
                rw [← HND.out, ← waitL_eq, HND.out]
                exact (rwait_any (peersL sf nd.toNat) (ticksL sf nd.toNat wait) A1 A2 c1 c2 pat n z.w (PA.out.sl.up z.h (Nat.le_refl _)) (PA.out.sl'.up z.h (Nat.le_refl _)) T2.out.symm LL)
              have C3 := Lib.hid (fun z : Ext wr => free_any (PA.out.peers.below z.h PA.out.peers.lt) n hn)
              have C4 : Hid (∀ z : Ext wr, Calls Try.prog 39 #[refC A1 A2 (peersL sf nd.toNat).length (ticksL sf nd.toNat wait).length c1 c2 pat, .int .u8 (n : Int)] z.w (RetB z.w (.bool (freeP sf nd wait n)))) := by
                intro z
                rw [← freeP_eq, ← HND.out, ← waitL_eq, ← isL_eq, HND.out]
                exact (rfree_any (peersL sf nd.toNat) (ticksL sf nd.toNat wait) A1 A2 c1 c2 pat n z.w (PA.out.sl.up z.h (Nat.le_refl _)) (PA.out.sl'.up z.h (Nat.le_refl _)) T2.out.symm LL)
              have q0 : ∀ z : Ext wr, z.w.cell? ⟨g, 0, none⟩ = some (.slice A1 (peersL sf nd.toNat).length c1) := fun z => (PA.out.ref.ext z.h).cell 0
              have q1 : ∀ z : Ext wr, z.w.cell? ⟨g, 1, none⟩ = some (.slice A2 (ticksL sf nd.toNat wait).length c2) := fun z => (PA.out.ref.ext z.h).cell 1
              have q2 : ∀ z : Ext wr, z.w.cell? ⟨g, 2, none⟩ = some (.int .i64 pat) := fun z => (PA.out.ref.ext z.h).cell 2
              have q3 : ∀ z : Ext wr, z.w.cell? ⟨sb, so + k * 2 + 1, none⟩ = some (.int .u8 n) := fun z => by
                rw [z.h.cell (p := ⟨sb, so + k * 2 + 1, none⟩) (by have := PA.out.below.size; show sb < wr.heap.size; omega)]; exact d1
              generalize waitP sf nd wait n = wv at *
              generalize freeP sf nd wait n = fv at *
              clear d1 d0
              refine wp_region_ext (by kernel_rfl) (by kernel_rfl) ?_
              repeat (first
                | go_big_quiet_skip
                | go_big_quiet_step ((first | (go_at_call 36; with_reducible exact ext_ret (C1.out _)) | (go_at_call 37; with_reducible exact ext_call (C2.out _)) | (go_at_call 38; with_reducible exact ext_ret (C3.out _)) | (go_at_call 39; with_reducible exact ext_call (C4.out _)))))
              refine wpQuiet_nil ?_
              rintro _ ⟨z, rfl⟩
              have W2 := Lib.hid (PA.out.ext z.h)
              go_wp2
              go_roundw
              case rel => exact ⟨k + 1, _, _, _, _, _, by omega, by go_num, W2.out⟩
              case measure => simp [intOf]; omega
      · have LL : (peersL sf nd.toNat).length ≤ 100 := by have := (newFacts sf nd.toNat).len; have := PA.out.peers.hnodes; omega
        have HND : Hid (((nd.toNat : Nat) : Int) = nd) := by have := PA.out.peers.hnodes; rw [Hid]; omega
        have TL := Lib.hid (ticksL_len sf nd.toNat wait)
        go_wp2_with fail
        obtain ⟨wo, rfl⟩ : ∃ wo : World, wo = wr := ⟨_, rfl⟩
        go_loopw [10] (fun z wr => ∃ n : Nat, n ≤ 256 ∧ z = .int .i64 n ∧ PlayAt w0 wr b g sf nd pat wait A1 A2 c1 c2) (fun z _ => 256 - (intOf z).toNat)
        case atStart => exact ⟨0, by omega, rfl, PA.out⟩
        case round =>
          obtain ⟨n, hn, rfl, hP⟩ := hrel
          clear PA
          have PA := Lib.hid hP
          clear hP
          by_cases hlt2 : n < 256
          · have n0 : (0 : Int) ≤ (n : Int) := by omega
            have n1 : (n : Int) < 256 := by omega
            have nw : IntKind.u8.wrap (n : Int) = (n : Int) := by rw [IntKind.wrap_u8]; omega
            have C1 := Lib.hid (fun z : Ext wr => wait_any (PA.out.peers.below z.h PA.out.peers.lt) n hlt2)
            have C2 : Hid (∀ z : Ext wr, Calls Try.prog 37 #[refC A1 A2 (peersL sf nd.toNat).length (ticksL sf nd.toNat wait).length c1 c2 pat, .int .u8 (n : Int)] z.w (RetB z.w (.int .i64 (waitP sf nd wait n)))) := by
              intro z
              rw [← HND.out, ← waitL_eq, HND.out]
              exact (rwait_any (peersL sf nd.toNat) (ticksL sf nd.toNat wait) A1 A2 c1 c2 pat n z.w (PA.out.sl.up z.h (Nat.le_refl _)) (PA.out.sl'.up z.h (Nat.le_refl _)) TL.out.symm LL)
            have C3 := Lib.hid (fun z : Ext wr => is_any b sf nd n z.w (PA.out.peers.below z.h PA.out.peers.lt).c0 (PA.out.peers.below z.h PA.out.peers.lt).c1 (by omega))
            have C4 : Hid (∀ z : Ext wr, Calls Try.prog 40 #[refC A1 A2 (peersL sf nd.toNat).length (ticksL sf nd.toNat wait).length c1 c2 pat, .int .u8 (n : Int)] z.w (RetB z.w (.bool (isP sf nd n)))) := by
              intro z
              rw [← HND.out, ← isL_eq, HND.out]
              exact (ris_any (peersL sf nd.toNat) A1 A2 _ c1 c2 pat n z.w (PA.out.sl.up z.h (Nat.le_refl _)) LL)
            have q0 : ∀ z : Ext wr, z.w.cell? ⟨g, 0, none⟩ = some (.slice A1 (peersL sf nd.toNat).length c1) := fun z => (PA.out.ref.ext z.h).cell 0
            have q1 : ∀ z : Ext wr, z.w.cell? ⟨g, 1, none⟩ = some (.slice A2 (ticksL sf nd.toNat wait).length c2) := fun z => (PA.out.ref.ext z.h).cell 1
            have q2 : ∀ z : Ext wr, z.w.cell? ⟨g, 2, none⟩ = some (.int .i64 pat) := fun z => (PA.out.ref.ext z.h).cell 2
            generalize waitP sf nd wait n = wv at *
            generalize isP sf nd n = iv at *
            go_wp2_with fail
            refine wp_region_ext (by kernel_rfl) (by kernel_rfl) ?_
            repeat (first
              | go_big_quiet_skip
              | go_big_quiet_step ((first | (go_at_call 36; with_reducible exact ext_ret (C1.out _)) | (go_at_call 37; with_reducible exact ext_call (C2.out _)) | (go_at_call 21; with_reducible exact ext_ret (C3.out _)) | (go_at_call 40; with_reducible exact ext_call (C4.out _)))))
            refine wpQuiet_nil ?_
            rintro _ ⟨z, rfl⟩
            have W2 := Lib.hid (PA.out.ext z.h)
            go_wp2
            go_roundw
            case rel => exact ⟨n + 1, by omega, by go_num, W2.out⟩
            case measure => simp [intOf]; omega
          · have hn' : n = 256 := by omega
            subst hn'
            have C1 : Hid (∀ z : Ext wr, Calls Try.prog 19 #[.pointer (some ⟨b, 0, none⟩)] z.w (RetD z.w (.int .i64 ((peersL sf nd.toNat).length : Int)))) := by
              intro z
              rw [peersL_len, HND.out]
              exact len_any b sf nd z.w (PA.out.peers.below z.h PA.out.peers.lt).c0 (PA.out.peers.below z.h PA.out.peers.lt).c1 PA.out.peers.hself PA.out.peers.hnodes
            have C2 : Hid (∀ z : Ext wr, Calls Try.prog 20 #[.pointer (some ⟨b, 0, none⟩), .int .u64 x] z.w (RetD z.w (.int .u8 (drawP sf nd x)))) := by
              intro z
              exact draw_any b sf nd x z.w (PA.out.peers.below z.h PA.out.peers.lt).c0 (PA.out.peers.below z.h PA.out.peers.lt).c1 PA.out.peers.hself PA.out.peers.hnodes hx
            have C3 : Hid (∀ z : Ext wr, Calls Try.prog 41 #[refC A1 A2 (peersL sf nd.toNat).length (ticksL sf nd.toNat wait).length c1 c2 pat, .int .u64 x] z.w (RetB z.w (.int .u8 (drawP sf nd x)))) := by
              intro z
              rw [← HND.out, ← drawL_eq, HND.out]
              exact rdraw_any (peersL sf nd.toNat) A1 A2 _ c1 c2 pat x z.w (PA.out.sl.up z.h (Nat.le_refl _)) LL hx
            have q0 : ∀ z : Ext wr, z.w.cell? ⟨g, 0, none⟩ = some (.slice A1 (peersL sf nd.toNat).length c1) := fun z => (PA.out.ref.ext z.h).cell 0
            have q1 : ∀ z : Ext wr, z.w.cell? ⟨g, 1, none⟩ = some (.slice A2 (ticksL sf nd.toNat wait).length c2) := fun z => (PA.out.ref.ext z.h).cell 1
            have q2 : ∀ z : Ext wr, z.w.cell? ⟨g, 2, none⟩ = some (.int .i64 pat) := fun z => (PA.out.ref.ext z.h).cell 2
            have BW := Lib.hid (ext_trans B0.out PA.out.below)
            generalize drawP sf nd x = dv at *
            go_wp2_with fail
            refine wp_region_ext (by kernel_rfl) (by kernel_rfl) ?_
            repeat (first
              | go_big_quiet_skip
              | go_big_quiet_step ((first | (go_at_call 19; with_reducible exact ext_retD (C1.out _)) | (go_at_call 20; with_reducible exact ext_retD (C2.out _)) | (go_at_call 41; with_reducible exact ext_call (C3.out _)) | (go_at_call 22; with_reducible exact ext_call (works36 _)))))
            refine wpQuiet_nil ?_
            rintro _ ⟨z, rfl⟩
            go_wp2
            go_ret
            exact ⟨rfl, ext_trans BW.out z.h⟩
end Go.Proofs.Ytlebhalaodmkhaa
