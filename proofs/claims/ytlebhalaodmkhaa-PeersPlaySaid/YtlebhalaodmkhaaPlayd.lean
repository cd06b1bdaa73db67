/- The document's peers: who is there at first; who is drawn. -/
import Derived.Test.YtlebhalaodmkhaaPlayc
import Derived.Deep.DeepCutAuto
namespace Go.Proofs.Ytlebhalaodmkhaa
open Go.RowKit

/-- two rows of other types never share a block -/
theorem own_ne {w : World} {b1 b2 : Nat} {e1 e2 : TypeId} {s1 s2 n1 n2 : Nat} {v1 v2 : Value} {x1 x2 : List Value} (h1 : w.ownsRow b1 e1 s1 v1 n1 x1) (h2 : w.ownsRow b2 e2 s2 v2 n2 x2) (he : e1 ≠ e2) : v1.ownBlock = none ∨ v1.ownBlock ≠ v2.ownBlock := by
  rcases h1.2 with ⟨rfl, _⟩ | ⟨g, cap, cur, rfl, _, hh, _⟩
  · exact .inl rfl
  · refine .inr fun h => ?_
    rcases h2.2 with ⟨rfl, _⟩ | ⟨g', cap', cur', rfl, _, hh', _⟩
    · simp [Value.ownBlock] at h
    · have hg : g = g' := by simpa [Value.ownBlock] using h
      subst hg
      rw [hh] at hh'
      injection hh' with hh'
      injection hh' with _ ht _
      exact he ht
theorem blk_own_ne {w : World} {b : Nat} {e t : TypeId} {s n g : Nat} {v : Value} {xs : List Value} {cs : Array Value} (h : w.ownsRow b e s v n xs) (hB : Blk w g t cs) (he : e ≠ t) : some g ≠ v.ownBlock := by
  intro hg
  rcases h.2 with ⟨rfl, _⟩ | ⟨g', cap', cur', rfl, _, hh', _⟩
  · simp [Value.ownBlock] at hg
  · have hg : g = g' := by simpa [Value.ownBlock] using hg
    subst hg
    unfold Blk at hB
    rw [hB] at hh'
    injection hh' with hh'
    injection hh' with _ ht _
    exact he ht.symm
theorem Blk.grown {w w' : World} {g : Nat} {t : TypeId} {cs : Array Value} {row : Option Nat} (h : Blk w g t cs) (hb : w.grownBy w' row) (hg : some g ≠ row) : Blk w' g t cs := (hb.block g h.lt hg).trans h

section
variable {P : Program} {w w0 : World} {ops : Array Oper} {rest : List Oper} {a : Act} {Q : Exit → Act → World → Prop}
/-- .. and only this row has turned -/
theorem wpList_pushOnly {d : Option Tmp} {ty : TypeId} {pos : String} {after : Array Edge} {s x : Operand} {t e : TypeId} {size bytes : Nat} (T : SlT P t e size bytes)
    {base : Nat} {v : Value} {n : Nat} {xs : List Value} (hown : w0.ownsRow base e size v n xs) (cs : List Value) (hl : cs.length = size) (h1 : ∀ u ∈ cs, u.oneCell' = true) (hbase : base ≤ w0.heap.size)
    (hb : (n + 1) * bytes ≤ 140737488355328) (hm : n + 1 ≤ maxLen)
    (H : Nat) (hH : w0.heap.size = H) (hs : a.eval s = v) (hx : a.eval x = .slice (some ⟨H, 0, none⟩) 1 1) (hw : w = w0.alloc (.cells cs.toArray e))
    (h : ∀ v' w', w'.ownsRow base e size v' (n + 1) (xs ++ cs) → (w0.alloc (.cells cs.toArray e)).grownBy w' v.ownBlock → Below base w0 w' → wpList P ops Q rest (a.put d v') w') :
    wpList P ops Q (⟨d, .call { callee := .builtin .append, args := #[s, x], argTypes := #[t, t] }, ty, pos, after, none⟩ :: rest) a w := by
  obtain ⟨i, z, hi, hz, hsz, hby, hzs⟩ := T.hi
  subst hw hH
  have hown' := hown.alloc (.cells cs.toArray e)
  refine wpList_append_own _ rfl s x t rfl base e i z size bytes T.ht hi hz hsz hby hzs T.pos v n xs hs hown' ⟨w0.heap.size, 0, none⟩ 1 1 cs hx (by omega) (news_new w0 e cs) h1 hm hb (by simp; omega) ?_
  intro v' w' ho hg _
  exact h v' w' ho hg (((Below.refl base w0).alloc hbase _).grown hg (by simp; omega) (fun k hk => (hown'.lt k hk).1))
end

theorem sl_of_own_in {w : World} {base : Nat} {e : TypeId} {n : Nat} {v : Value} {xs : List Value} (h : w.ownsRow base e 1 v n xs) : ∃ A c, v = .slice A n c ∧ Sl w w.heap.size 1 A n xs ∧ ∀ a, A = some a → base ≤ a.block ∧ a.block < w.heap.size := by
  obtain ⟨A, c, h1, _, h2⟩ := Sl.of_own h
  subst h1
  exact ⟨A, c, rfl, h2, fun a ha => by subst ha; exact h.lt a.block rfl⟩
/-- peers are handed back, nobody waited for -/
def RetNew (w : World) (L : List Int) (p : Int) (e : Ending) (w' : World) : Prop :=
  ∃ A A' c c', e = .returned (refC A A' L.length L.length c c' p) ∧ Sl w' w'.heap.size 1 A L.length (L.map (Value.int .u8)) ∧ Sl w' w'.heap.size 1 A' L.length ((L.map fun _ => (0 : Int)).map (Value.int .i64)) ∧ Below w.heap.size w w' ∧ (∀ a, A = some a → w.heap.size ≤ a.block ∧ a.block < w'.heap.size) ∧ ∀ a, A' = some a → w.heap.size ≤ a.block ∧ a.block < w'.heap.size

/-- the new peers' object, k numbers looked at -/
structure NewAt (w : World) (base g r : Nat) (sf pat : Int) (k : Nat) : Prop where
  ex : ∃ vL vT, Blk w g 46 #[vL, vT, .int .i64 pat] ∧ w.ownsRow base 5 1 vL (peersL sf k).length ((peersL sf k).map (Value.int .u8)) ∧ w.ownsRow base 3 1 vT (peersL sf k).length ((peersL sf k).map fun _ => Value.int .i64 0)
  res : Blk w r 46 #[.slice none 0 0, .slice none 0 0, .int .i64 0]
/-- one number more -/
structure NewFacts (sf : Int) (k : Nat) : Prop where
  same : (k : Int) + 1 = sf → peersL sf (k + 1) = peersL sf k
  more : (k : Int) + 1 ≠ sf → peersL sf (k + 1) = peersL sf k ++ [(k : Int) + 1]
  len : (peersL sf k).length ≤ k
theorem newFacts (self : Int) (k : Nat) : NewFacts self k :=
  ⟨fun h => by rw [peersL_succ, if_pos h, List.append_nil], fun h => by rw [peersL_succ, if_neg h], by
    have := peersL_len self k
    unfold lenP at this
    split at this <;> omega⟩
theorem own_set {w : World} {b : Nat} {e : TypeId} {s n g i : Nat} {v u : Value} {xs : List Value} (h : w.ownsRow b e s v n xs) (hg : some g ≠ v.ownBlock) : (w.setCell ⟨g, i, none⟩ u).ownsRow b e s v n xs :=
  h.kept (only_set g i u) (by
    rcases hv : v.ownBlock with _ | k
    · exact .inl rfl
    · refine .inr fun e => hg ?_
      rw [hv]; exact e.symm)
theorem NewAt.zero {w : World} {base g r : Nat} {self q : Int} (h1 : Blk w g 46 #[.slice none 0 0, .slice none 0 0, .int .i64 q]) (h2 : Blk w r 46 #[.slice none 0 0, .slice none 0 0, .int .i64 0]) : NewAt w base g r self q 0 :=
  ⟨⟨_, _, h1, by simpa [peersL] using World.ownsRow_nil w base _ 1, by simpa [peersL] using World.ownsRow_nil w base _ 1⟩, h2⟩
set_option maxRecDepth 100000 in
set_option maxHeartbeats 4000000 in
theorem rnew_any (self nodes pat : Int) (w : World) (hs : 0 ≤ self ∧ self < 256) :
    Calls Try.prog 29 #[.int .u8 self, .int .i64 nodes, .int .i64 pat] w (RetNew w (peersL self (clamp nodes 64).toNat) (clamp pat 8)) := by
  obtain ⟨s0, s1⟩ := hs
  have HC : Hid (∀ n m : Int, clamp n m = if n < 0 then 0 else if m < n then m else n) := fun _ _ => rfl
  have CP : ∃ q, Hid (clamp pat 8 = q) ∧ ((¬ pat < 0 ∧ ¬ 8 < pat ∧ q = pat) ∨ (pat < 0 ∧ q = 0) ∨ (¬ pat < 0 ∧ 8 < pat ∧ q = 8)) := by
    refine ⟨_, rfl, ?_⟩
    by_cases h1 : pat < 0
    · exact .inr (.inl ⟨h1, clamp_low h1⟩)
    · by_cases h2 : 8 < pat
      · exact .inr (.inr ⟨h1, h2, clamp_high h2⟩)
      · exact .inl ⟨h1, h2, clamp_mid (by omega) (by omega)⟩
  have CN : ∃ m : Nat, m ≤ 64 ∧ Hid ((clamp nodes 64).toNat = m) ∧ ((64 < nodes ∧ Hid ((m : Int) = 64)) ∨ (¬ 64 < nodes ∧ Hid (nodes = m)) ∨ (¬ 64 < nodes ∧ Hid (nodes < 0 ∧ (m : Int) = 0))) := by
    rw [HC.out]
    by_cases h1 : nodes < 0
    · exact ⟨0, by omega, by rw [Hid, if_pos h1]; rfl, .inr (.inr ⟨by omega, h1, rfl⟩)⟩
    · by_cases h2 : 64 < nodes
      · exact ⟨64, by omega, by rw [Hid, if_neg h1, if_pos h2]; rfl, .inl ⟨h2, rfl⟩⟩
      · exact ⟨nodes.toNat, by omega, by rw [Hid, if_neg h1, if_neg h2], .inr (.inl ⟨h2, by rw [Hid]; omega⟩)⟩
  obtain ⟨m, hm, HM, CN⟩ := CN
  obtain ⟨q, HQ, CP⟩ := CP
  rw [HM.out, HQ.out]
  clear HM HC HQ
  have NP : ∀ k : Nat, NewFacts self k := newFacts self
  have NPH := Lib.hid NP
  clear NP
  have R0 : Hid (NewAt ((w.alloc (.cells #[.slice none 0 0, .slice none 0 0, .int .i64 0] 46)).alloc (.cells #[.slice none 0 0, .slice none 0 0, .int .i64 q] 46)) w.heap.size (w.heap.size + 1) w.heap.size self q 0 ∧ Below w.heap.size w ((w.alloc (.cells #[.slice none 0 0, .slice none 0 0, .int .i64 0] 46)).alloc (.cells #[.slice none 0 0, .slice none 0 0, .int .i64 q] 46))) :=
    ⟨NewAt.zero (Blk.newAt (by simp) _ _) ((Blk.new _ _ _).alloc _), ((Below.refl _ _).alloc (Nat.le_refl _) _).alloc (by simp) _⟩
  obtain ⟨R, hR⟩ : ∃ R : Nat → World → Prop, ∀ k wr, R k wr = (NewAt wr w.heap.size (w.heap.size + 1) w.heap.size self q k ∧ Below w.heap.size w wr) := ⟨_, fun _ _ => rfl⟩
  have HR := Lib.hid hR
  rw [← hR] at R0
  clear hR
  rcases CP with ⟨p1, p2, rfl⟩ | ⟨p1, rfl⟩ | ⟨p1, p2, rfl⟩
  all_goals rcases CN with ⟨n1, n2⟩ | ⟨n1, n2⟩ | ⟨n1, n2⟩
  all_goals
    go_enter Try.func29, Try.ntmps29
    go_wp2_with fail
    go_loopw [8] (fun z wr => ∃ k : Nat, k ≤ m ∧ z = .int .i64 ((k : Int) + 1) ∧ R k wr) (fun z _ => m + 1 - (intOf z).toNat)
    case atStart => exact ⟨0, by omega, rfl, R0.out⟩
    case round =>
      obtain ⟨k, hk, rfl, hr⟩ := hrel
      clear R0
      rw [HR.out] at hr
      obtain ⟨⟨⟨vL, vT, b, oL, oT⟩, res⟩, bl⟩ := hr
      have B := Lib.hid b
      have OL := Lib.hid oL
      have OT := Lib.hid oT
      have RS := Lib.hid res
      have BL := Lib.hid bl
      have j0 := b.cell 0
      have j1 := b.cell 1
      have j2 := b.cell 2
      simp at j0 j1 j2
      clear b oL oT res bl
      have NF := Lib.hid (NPH.out k)
      have nl := NF.out.len
      by_cases hlt : k < m
      · have h64 : (k : Int) + 1 ≤ 64 := by omega
        have hnd : (k : Int) + 1 ≤ nodes := by have := n2.out; omega
        by_cases he : (k : Int) + 1 = self
        · have hd : ((k : Int) + 1 != self) = false := by simp [he]
          have E := Lib.hid (NF.out.same he)
          clear he
          go_wp2
          go_roundw
          case rel => exact ⟨k + 1, by omega, by go_num, by rw [HR.out]; exact ⟨⟨⟨vL, vT, B.out, by rw [E.out]; exact OL.out, by rw [E.out]; exact OT.out⟩, RS.out⟩, BL.out⟩⟩
          case measure => simp [intOf]; omega
        · have hd : ((k : Int) + 1 != self) = true := by simp [he]
          have E := Lib.hid (NF.out.more he)
          clear he
          go_wp2_with (first
            | (at_builtin
               refine wpList_pushOnly u8Sl OL.out [.int .u8 ((k : Int) + 1)] rfl (by simp [Value.oneCell']) BL.out.size (by omega) (by unfold maxLen; omega) wr.heap.size rfl (by rfl) (by rfl) (by rfl) ?_
               intro v1 w2 own1 hg1 bel1
               obtain ⟨A1, c1, hv1, _⟩ := sl_of_own' own1
               subst hv1
               have O1 := Lib.hid own1
               have B2 := Lib.hid ((B.out.alloc (.cells #[.int .u8 ((k : Int) + 1)] 5)).grown hg1 (blk_own_ne OL.out B.out (by decide)))
               have T2 := Lib.hid ((OT.out.alloc (.cells #[.int .u8 ((k : Int) + 1)] 5)).kept hg1 (own_ne OT.out OL.out (by decide)))
               have R2 := Lib.hid ((RS.out.alloc (.cells #[.int .u8 ((k : Int) + 1)] 5)).grown hg1 (blk_own_ne OL.out RS.out (by decide)))
               have BL2 := Lib.hid (BL.out.trans bel1)
               have e0 := B2.out.cell 0
               have e1 := B2.out.cell 1
               have e2 := B2.out.cell 2
               have g0 := B2.out.fr 0
               have g1 := B2.out.fr 1
               simp at e0 e1 e2
               have T3 := Lib.hid (own_set (g := w.heap.size + 1) (i := 0) (u := .slice A1 ((peersL self k).length + 1) c1) T2.out (blk_own_ne T2.out B2.out (by decide)))
               have O3 := Lib.hid (own_set (g := w.heap.size + 1) (i := 0) (u := .slice A1 ((peersL self k).length + 1) c1) O1.out (blk_own_ne O1.out B2.out (by decide)))
               have B3 := Lib.hid (B2.out.set_ 0 (.slice A1 ((peersL self k).length + 1) c1))
               have R3 := Lib.hid (R2.out.far (p := ⟨w.heap.size + 1, 0, none⟩) (by simp) (.slice A1 ((peersL self k).length + 1) c1))
               have BL3 := Lib.hid (BL2.out.setCell (p := ⟨w.heap.size + 1, 0, none⟩) (by simp) (.slice A1 ((peersL self k).length + 1) c1))
               clear own1 hg1 bel1 j0 j1 j2 B RS BL OT)
            | (at_builtin
               refine wpList_pushOnly intSl T3.out [.int .i64 0] rfl (by simp [Value.oneCell']) BL3.out.size (by omega) (by unfold maxLen; omega) w2.heap.size (by simp [World.setCell]) (by rfl) (by rfl) (by rfl) ?_
               intro v2 w3 own2 hg2 bel2
               obtain ⟨A2, c2, hv2, _⟩ := sl_of_own' own2
               subst hv2
               have T4 := Lib.hid own2
               have B4 := Lib.hid ((B3.out.alloc (.cells #[.int .i64 0] 3)).grown hg2 (blk_own_ne T3.out B3.out (by decide)))
               have O4 := Lib.hid ((O3.out.alloc (.cells #[.int .i64 0] 3)).kept hg2 (own_ne O3.out T3.out (by decide)))
               have R4 := Lib.hid ((R3.out.alloc (.cells #[.int .i64 0] 3)).grown hg2 (blk_own_ne T3.out R3.out (by decide)))
               have BL4 := Lib.hid (BL3.out.trans bel2)
               have e3 := B4.out.cell 0
               have e4 := B4.out.cell 1
               have e5 := B4.out.cell 2
               have g2 := B4.out.fr 0
               have g3 := B4.out.fr 1
               simp at e3 e4 e5
               clear own2 hg2 bel2 e0 e1 e2 g0 g1 T3 B3 R3 BL3 T2 O1 B2 R2 BL2 O3))
          go_roundw
          case rel =>
            refine ⟨k + 1, by omega, by go_num, ?_⟩
            rw [HR.out]
            refine ⟨⟨⟨.slice A1 ((peersL self k).length + 1) c1, .slice A2 ((peersL self k).length + 1) c2, ?_, ?_, ?_⟩, R4.out.far (p := ⟨w.heap.size + 1, 1, none⟩) (by simp) _⟩, BL4.out.setCell (p := ⟨w.heap.size + 1, 1, none⟩) (by simp) _⟩
            · have := B4.out.set_ 1 (.slice A2 ((peersL self k).length + 1) c2); simpa using this
            · rw [E.out]
              have := own_set (g := w.heap.size + 1) (i := 1) (u := .slice A2 ((peersL self k).length + 1) c2) O4.out (blk_own_ne O4.out B4.out (by decide))
              simpa using this
            · rw [E.out]
              have := own_set (g := w.heap.size + 1) (i := 1) (u := .slice A2 ((peersL self k).length + 1) c2) T4.out (blk_own_ne T4.out B4.out (by decide))
              simpa using this
          case measure => simp [intOf]; omega
      · have hk' : k = m := by omega
        have hx : ¬ (m : Int) + 1 ≤ 64 ∨ ¬ (m : Int) + 1 ≤ nodes := by have := n2.out; omega
        subst hk'
        have nL := blk_own_ne OL.out RS.out (by decide)
        have nT := blk_own_ne OT.out RS.out (by decide)
        obtain ⟨A1, c1, hv1, s1, i1⟩ := sl_of_own_in OL.out
        obtain ⟨A2, c2, hv2, s2, i2⟩ := sl_of_own_in OT.out
        have I1 := Lib.hid i1
        have I2 := Lib.hid i2
        clear i1 i2
        subst hv1 hv2
        have NL : Hid (∀ a, A1 = some a → a.block ≠ w.heap.size) := fun a ha e => nL (by subst ha; simp [Value.ownBlock, e])
        have NT : Hid (∀ a, A2 = some a → a.block ≠ w.heap.size) := fun a ha e => nT (by subst ha; simp [Value.ownBlock, e])
        have S1 := Lib.hid s1
        have S2 := Lib.hid s2
        have f0 := RS.out.fr 0
        have f1 := RS.out.fr 1
        have f2 := RS.out.fr 2
        have r0 := RS.out.cell 0
        have r1 := RS.out.cell 1
        have r2 := RS.out.cell 2
        simp at r0 r1 r2
        clear s1 s2 nL nT OL OT B
        go_wp2
        refine bodyPost_ret (results_cell_row rfl _ _ w.heap.size _ #[.slice A1 (peersL self k).length c1, .slice A2 (peersL self k).length c2, _] _ _ rfl (((RS.out.set_ 0 _).set_ 1 _).set_ 2 _) Try.underlying46 rfl infoP) rfl ?_
        refine ⟨A1, A2, c1, c2, rfl, ?_, ?_, ((BL.out.setCell (p := ⟨w.heap.size, 0, none⟩) (Nat.le_refl _) _).setCell (p := ⟨w.heap.size, 1, none⟩) (Nat.le_refl _) _).setCell (p := ⟨w.heap.size, 2, none⟩) (Nat.le_refl _) _, fun a ha => by have := I1.out a ha; simpa [World.setCell] using this, fun a ha => by have := I2.out a ha; simpa [World.setCell] using this⟩
        · refine (((S1.out.farCell (p := ⟨w.heap.size, 0, none⟩) NL.out _).farCell (p := ⟨w.heap.size, 1, none⟩) NL.out _).farCell (p := ⟨w.heap.size, 2, none⟩) NL.out _).more ?_
          simp [World.setCell]
        · rw [List.map_map]
          refine (((S2.out.farCell (p := ⟨w.heap.size, 0, none⟩) NT.out _).farCell (p := ⟨w.heap.size, 1, none⟩) NT.out _).farCell (p := ⟨w.heap.size, 2, none⟩) NT.out _).more ?_
          simp [World.setCell]
end Go.Proofs.Ytlebhalaodmkhaa
