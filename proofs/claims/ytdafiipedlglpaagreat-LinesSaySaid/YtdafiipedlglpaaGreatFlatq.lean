/- A struct of scalars by value, opened; a choice, a not, in a drawn region (copies, so that the texts below stay as they are). -/
import Derived.Test.YtdafiipedlglpaaGreatGen
namespace Go.Proofs.YtdafiipedlglpaaGreat
open Go.ChangeShapes Go.WideShapes Go.RowKit Go.Deep

def Qgx (go : TypeId → Option (List Sc)) : List Field → Nat → Option (List Sc)
 | [],_ => some []
 | f :: fs,off => if f.offset = off then (go f.type).bind fun ks => (Qgx go fs (off + ks.length)).map (ks ++ ·) else none
def flatQ (P : Program) : Nat → TypeId → Option (List Sc)
 | 0,_ => none
 | n + 1,t =>
  match P.underlying t with
  | some .bool => some [.bool]
  | some (.int k) => some [.int k]
  | some .string => some [.str]
  | some (.struct fs) => (Qgx (flatQ P n) fs.toList 0).bind fun ks => if P.cellsOf t = ks.length then some ks else none
  | some (.array m e) => (flatQ P n e).bind fun ks => if P.cellsOf e = ks.length ∧ P.cellsOf t = m * ks.length then some (List.replicate m ks).flatten else none
  | _ => none


section
variable {H : Type} {enc : TypeId × Value → H} {P : Program} {w : World} {base : Nat} {spare : Nat → Bool} {held : Bool}
theorem flatLoop_okQ (go : TypeId → Option (List Sc)) (hgo : ∀ t ks n cs x,go t = some ks → DataW.trod enc P w base spare held n t cs = some x → FlatOk ks cs) :
  ∀ (fs : List Field) (off : Nat) (ks : List Sc) (cs : List Value) (n : Nat),Qgx go fs off = some ks →
   (∀ f ∈ fs,∃ x,DataW.trod enc P w base spare held n f.type ((cs.drop f.offset).take (P.cellsOf f.type)) = some x) → off + ks.length = cs.length → FlatOk ks (cs.drop off)
 | [],off,ks,cs,n,h,_,hl => by
  simp only [Qgx,Option.some.injEq] at h
  subst h
  rw [List.drop_eq_nil_of_le (by simp at hl; omega)]
  trivial
 | f :: fs,off,ks,cs,n,h,hx,hl => by
  simp only [Qgx] at h
  split at h
  case isFalse => cases h
  case isTrue ho =>
   obtain ⟨k1,h1,h2⟩:=Option.bind_eq_some_iff.1 h
   obtain ⟨k2,h3,rfl⟩:=Option.map_eq_some_iff.1 h2
   obtain ⟨x,hx1⟩:=hx f (by simp)
   have o1:=hgo f.type k1 n _ x h1 hx1
   have l1:=o1.len
   rw [ho] at o1 l1
   have o2:=flatLoop_okQ go hgo fs (off + k1.length) k2 cs n h3 (fun g hg => hx g (by simp [hg])) (by rw [List.length_append] at hl; omega)
   rw [List.length_append] at hl
   have hle : k1.length ≤ P.cellsOf f.type:=by rw [← l1,List.length_take]; omega
   have e1 : ((cs.drop off).take (P.cellsOf f.type)) = (cs.drop off).take k1.length:=by
    rw [← l1]; rw [List.length_take]
    rcases Nat.le_total (P.cellsOf f.type) (cs.drop off).length with hh | hh
    ·rw [Nat.min_eq_left hh]
    ·rw [Nat.min_eq_right hh,List.take_length,List.take_of_length_le hh]
   rw [e1] at o1
   have e2 : cs.drop off = (cs.drop off).take k1.length ++ cs.drop (off + k1.length):=by
    rw [← List.drop_drop,List.take_append_drop]
   rw [e2]
   exact o1.append o2

theorem flatRep_okQ {ks : List Sc} {cs : List Value} : ∀ (m off : Nat),(∀ i,i < m → FlatOk ks ((cs.drop (off + i * ks.length)).take ks.length)) → off + m * ks.length = cs.length → FlatOk (List.replicate m ks).flatten (cs.drop off)
 | 0,off,_,hl => by
  rw [List.drop_eq_nil_of_le (by omega)]
  trivial
 | m + 1,off,h,hl => by
  have h0:=h 0 (by omega)
  rw [Nat.zero_mul,Nat.add_zero] at h0
  rw [Nat.succ_mul] at hl
  have hr:=flatRep_okQ m (off + ks.length) (fun i hi => by
   have:=h (i + 1) (by omega)
   rw [Nat.succ_mul] at this
   rw [show off + ks.length + i * ks.length = off + (i * ks.length + ks.length) by omega]
   exact this) (by omega)
  have e : cs.drop off = (cs.drop off).take ks.length ++ cs.drop (off + ks.length):=by rw [← List.drop_drop,List.take_append_drop]
  rw [e,List.replicate_succ,List.flatten_cons]
  exact h0.append hr

theorem flat_okQ : ∀ (n : Nat) (t : TypeId) (ks : List Sc) (m : Nat) (cs : List Value) (x : DataW H × List MemPlace),flatQ P n t = some ks → DataW.trod enc P w base spare held m t cs = some x → FlatOk ks cs:=by
 intro n
 induction n with
 | zero => intro t ks m cs x h; simp [flatQ] at h
 | succ n ih =>
  intro t ks m cs x h hx
  simp only [flatQ] at h
  split at h
  ·rename_i hu
   obtain rfl : [Sc.bool] = ks:=by injection h
   cases m with
   | zero => simp [DataW.trod] at hx
   | succ m =>
    unfold DataW.trod at hx
    rw [hu] at hx
    match cs,hx with
    | [.bool b],_ => exact ⟨⟨b,rfl⟩,trivial⟩
  ·rename_i k hu
   obtain rfl : [Sc.int k] = ks:=by injection h
   cases m with
   | zero => simp [DataW.trod] at hx
   | succ m =>
    unfold DataW.trod at hx
    rw [hu] at hx
    match cs,hx with
    | [.int k' z],hx =>
     simp only at hx
     split at hx
     case isTrue hk => obtain ⟨rfl,hw⟩:=hk; exact ⟨⟨z,rfl,hw⟩,trivial⟩
     case isFalse => cases hx
  ·rename_i hu
   obtain rfl : [Sc.str] = ks:=by injection h
   cases m with
   | zero => simp [DataW.trod] at hx
   | succ m =>
    unfold DataW.trod at hx
    rw [hu] at hx
    match cs,hx with
    | [.string s],hx =>
     simp only at hx
     split at hx
     case isTrue hk => exact ⟨⟨s,rfl,hk⟩,trivial⟩
     case isFalse => cases hx
  ·rename_i fs hu
   obtain ⟨ks',h1,h2⟩:=Option.bind_eq_some_iff.1 h
   split at h2
   case isFalse => cases h2
   case isTrue hc =>
    simp only [Option.some.injEq] at h2
    subst h2
    obtain ⟨xs,m',_,_,hlen,hxl,hf⟩:=DataW.trod_struct hu hx
    have:=flatLoop_okQ (flatQ P n) (fun t ks n' cs x h h' => ih t ks n' cs x h h') fs.toList 0 ks' cs m' h1 (fun f hf' => by
     obtain ⟨i,hi,rfl⟩:=List.getElem_of_mem hf'
     have hi' : i < fs.size:=by simpa using hi
     have e:=hf i fs[i] (Array.getElem?_eq_getElem hi')
     rw [List.getElem?_eq_getElem (by omega)] at e
     exact ⟨_,e⟩) (by rw [hlen,hc]; omega)
    simpa using this
  ·rename_i mm e hu
   obtain ⟨ks',h1,h2⟩:=Option.bind_eq_some_iff.1 h
   split at h2
   case isFalse => cases h2
   case isTrue hc =>
    simp only [Option.some.injEq] at h2
    subst h2
    obtain ⟨hce,hct⟩:=hc
    obtain ⟨xs,m',_,_,hlen,hxl,hf⟩:=DataW.trod_array hu hx
    rw [hce] at hf
    have:=flatRep_okQ (ks:=ks') (cs:=cs) mm 0 (fun i hi => by
     have e:=hf i hi
     rw [List.getElem?_eq_getElem (by omega)] at e
     rw [Nat.zero_add]
     exact ih _ ks' m' _ _ h1 e) (by rw [hlen,hct]; omega)
    simpa using this
  ·cases h

theorem open_flatQ {r : Reach} {b0 : Nat} {t : TypeId} {v : Value} {d : DataW H} {p : List MemPlace} {ks : List Sc} (hf : flatQ P 9 t = some ks)
  (ha : (match P.underlying t with | some (.struct _) => true | some (.array _ _) => true | _ => false) = true)
  (hv : Value.okWide P w r b0 t v) (h : DataW.Trod enc P w base spare held t v d p) : ∃ cs : List Value,v = .agg cs.toArray ∧ FlatOk ks cs:=by
 obtain ⟨m,hm⟩:=h
 have hok:=flat_okQ 9 t ks m _ _ hf hm
 have : ∃ cs,v = .agg cs:=by
  unfold Value.okWide at hv
  split at hv
  ·obtain ⟨cs,h1,_⟩:=hv; exact ⟨cs,h1⟩
  ·obtain ⟨cs,h1,_⟩:=hv; exact ⟨cs,h1⟩
  ·rename_i h1 h2
   split at ha
   ·rename_i h3; exact absurd h3 (h1 _)
   ·rename_i h3; exact absurd h3 (h2 _ _)
   ·cases ha
 obtain ⟨cs,rfl⟩:=this
 exact ⟨cs.toList,by simp,hok⟩
end
section
variable {ρ : Operand → Value} {d : Option Tmp} {s ty : TypeId} {x y : Operand} {pos : String} {after : Array Edge} {gd : Option (Nat × Bool)} {v pv iv : Value} {P : Program} {w : World}
end
end Go.Proofs.YtdafiipedlglpaaGreat
