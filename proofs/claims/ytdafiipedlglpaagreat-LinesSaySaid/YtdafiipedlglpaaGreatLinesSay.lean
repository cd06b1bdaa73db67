/- OF ANY GRAPH, of each file and anything else, its lines, their order, which are alive, and which are alike no other, are as the document says. No condition. -/
import Derived.Test.YtdafiipedlglpaaGreatLnw
import Derived.Test.YtdafiipedlglpaaGreatFlatq
import Derived.Test.YtdafiipedlglpaaGreatGen
namespace Go.Proofs.YtdafiipedlglpaaGreat
open Go.ChangeShapes Go.WideShapes Go.RowKit Go.Deep

set_option maxRecDepth 100000 in
theorem linesSay_lifted (os : Os) (started : os.Started) (H : Type) (enc : TypeId × Value → H) :
  ReturnsInHanded {} Tryz.checked os 3 .any (Rows.linesSaySpec.pre6 enc Tryz.prog Tryz.f3 Rows.linesSayRow.domain false) (Rows.linesSaySpec.post enc Tryz.prog Tryz.f3 false true false false):=by
 refine returnsInHanded_of_change (C:=Tryz.checked) own started (by kernel_rfl) Tryz.func3
  (ChangeSpec.witness6 (enc:=enc) (C:=Tryz.checked) false ⟨#[],#[.slice none 0 0,.agg #[.int .u8 0,.int .u16 0,.int .u8 0],.int .i64 0],[]⟩ 8 (by kernel_rfl) (by kernel_rfl) (by kernel_rfl) (by kernel_rfl)) ?_
 intro W base args ds gs before hval0 hW _ _
 have hval : ∀ (j : Nat) t v,Tryz.f3.params[j]? = some t → args[j]? = some v → Value.okWide Tryz.prog W .any base t v:=hval0
 have hW':=hW
 obtain ⟨p,q,hA0,hV,hps,hfz,hnd⟩:=hW
 have hA : DataW.TrodAll enc Tryz.prog W 0 (fun _ => true) true Tryz.f3.params.toList args.toList ds p:=hA0
 rw [Tryz.params3] at hA hval
 obtain ⟨v0,vs0,d0,ds0,p0,q0,hargs,rfl,hp0,h0,r0⟩:=trodAll_cons hA
 obtain ⟨v1,vs1,d1,ds1,p1,q1,rfl,rfl,hp1,h1,r1⟩:=trodAll_cons r0
 obtain ⟨v2,vs2,d2,ds2,p2,q2,rfl,rfl,hp2,h2,r2⟩:=trodAll_cons r1
 obtain ⟨rfl,rfl,_⟩:=trodAll_nil r2
 obtain rfl : args = #[v0,v1,v2]:=by cases args; simp_all
 obtain ⟨rfl,_⟩:=trodVars_none hV
 obtain ⟨A0,n0,c0,rows0,rfl,hle0,hcm0,hrl0,hro0,hrs0⟩:=open_nest_slice (es:=shPat) Tryz.underlying22 (by kernel_rfl) (hval 0 22 v0 rfl rfl) h0
 obtain ⟨l0,w0⟩:=pats_of hrl0 hro0 hrs0
 obtain ⟨cs1,rfl,f1⟩:=open_flatQ (ks:=[.int .u8,.int .u16,.int .u8]) (by kernel_rfl) (by kernel_rfl) (hval 1 27 v1 rfl rfl) h1
 obtain ⟨x1,rfl⟩:=vid_flatB f1
 obtain ⟨a2,rfl,rfl,rfl,w2⟩:=open_int Tryz.underlying3 (hval 2 3 v2 rfl rfl) h2
 refine (linesSay_walk W l0 A0 n0 c0 (Nat.le_trans hle0 hcm0) w0 x1 a2 w2).mono fun e W' ⟨he,bel⟩ => ?_
 subst he
 exact ⟨_,rfl,law_post (tb := 4) Tryz.underlying4 rfl (typesOk_of (by kernel_rfl)) hW' rfl rfl bel⟩
theorem linesSay_holds : Rows.LinesSaySaid:=
 OpenClaim.holds_of_wide 3 Tryz.f3 rfl rfl rfl rfl rfl rfl rfl ⟨rfl,rfl,rfl,rfl,rfl⟩ rfl rfl rfl rfl rfl (by kernel_rfl) Tryz.func3 (by kernel_rfl)
  (of_decide_eq_true (by kernel_rfl)) (by unfold Func.isWrapper; first | (rw [if_pos (by decide +kernel)]; kernel_rfl) | (rw [if_neg (by decide +kernel)]; exact ⟨rfl,rfl⟩))
  (fun os started H enc _ => linesSay_lifted os started H enc)
end Go.Proofs.YtdafiipedlglpaaGreat
