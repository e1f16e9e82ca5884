/- The given statement is proved: for every input the law returns true, and its arguments read as they did. There are no conditions. -/
import Derived.Test.YthnhbemmlfaihaaC13
import Derived.Test.YthnhbemmlfaihaaC34
import Derived.Test.YthnhbemmlfaihaaRows
set_option linter.unusedVariables false
set_option linter.unusedSimpArgs false
set_option maxRecDepth 10000
set_option maxHeartbeats 64000000
namespace Go.Proofs.Ythnhbemmlfaihaa
open Go.ChangeShapes Go.WideShapes Go.ChangeAt Go.RowKit Go.Vc Go.Proofs.Pk
theorem own:ownKnob Try.prog.godebug=none:=by kernel_rfl
theorem laidOut:laidOutB Try.prog=true:=by kernel_rfl
theorem rows:∀t∈Try.f4.params.toList,Try.prog.readableRec t=true/\t < Try.prog.types.size:=by
 intro t ht
 rw [Try.params4] at ht
 simp at ht
 rcases ht with rfl|rfl<;>exact ⟨by kernel_rfl,by decide +kernel⟩
def ake:Ty:=.pair (.sl (.int .u8)) (.pair (.sl (oH (.int .u8) 5)) (.pair (.sl (oH (.int .u8) 4)) .unit))
theorem akf:tA Try.prog 8 26=some ake:=by kernel_rfl
def akg:Ty:=oH (.int .u8) 5
theorem akh:tA Try.prog 8 50=some akg:=by kernel_rfl
set_option maxRecDepth 100000 in
theorem lifted (os:Os) (started:os.Started) (H:Type) (enc:TypeId × Value->H) :
  ReturnsInHanded {} Try.checked os 4 .any (Rows.mappingIgnoresSpec.pre6 enc Try.prog Try.f4 Rows.mappingIgnoresRow.domain false) (Rows.mappingIgnoresSpec.post enc Try.prog Try.f4 false true false false):=by
 refine returnsInHanded_of_change (C:=Try.checked) own started (by kernel_rfl) Try.func4
  (ChangeSpec.witness6 (enc:=enc) (C:=Try.checked) false ⟨#[],#[.agg #[.slice none 0 0,.slice none 0 0,.slice none 0 0],.agg #[.int .u8 0,.int .u8 0,.int .u8 0,.int .u8 0,.int .u8 0]],[]⟩ 4 (by kernel_rfl) (by kernel_rfl) (by kernel_rfl) (by kernel_rfl)) ?_
 intro W base args ds gs before ahN hW arn _
 have se:∀(j:Nat) t v,Try.f4.params[j]?=some t->args[j]?=some v->Value.okWide Try.prog W .any base t v:=ahN
 have hW':=hW
 obtain ⟨p,q,yd,hV,rfl,JI,fe⟩:=hW
 have hA:DataW.TrodAll enc Try.prog W 0 (λ_=>true) true Try.f4.params.toList args.toList ds p:=yd
 rw [Try.params4] at hA se
 obtain ⟨v0,vs0,d0,ds0,p0,q0,lu,rfl,rfl,h0,r0⟩:=trodAll_cons hA
 obtain ⟨v1,vs1,d1,ds1,p1,q1,rfl,rfl,rfl,h1,r1⟩:=trodAll_cons r0
 obtain ⟨rfl,rfl,rfl⟩:=trodAll_nil r1
 obtain rfl:args=#[v0,v1]:=by cases args;simp_all
 obtain ⟨rfl,rfl⟩:=trodVars_none hV
 obtain ⟨y0,w0,z0⟩:=Uw akf (se 0 26 v0 rfl rfl) h0
 obtain ⟨y1,w1,z1⟩:=Uw akh (se 1 50 v1 rfl rfl) h1
 refine (adi (S:=igR) (fid:=4) (w:=W) (vals:=[v0,v1]) agv (⟨⟨y0.1,y0.2.1,y0.2.2.1⟩,y1⟩:Qd) (⟨⟨w0.1.2,w0.2.1.2,w0.2.2.1.2⟩,w1⟩) rfl ?_).mono λe W' ⟨he,hb⟩=>?_
 ·exact gI z0 (z1)
 ·subst he
  exact ⟨_,rfl,adh laidOut rows (tb:=4) (by kernel_rfl) Try.underlying4 rfl rfl rfl rfl hW' hb⟩
set_option maxHeartbeats 8000000 in
theorem closed:joinedFacts Try.pinned.checked.prog 4 Try.f4 Rows.mappingIgnoresSpec Rows.mappingIgnoresRow=true:=by
 unfold joinedFacts
 simp only [cf]
 repeat' apply And.intro
 all_goals decide +kernel
theorem EG:Rows.mappingIgnoresRow.holds Try.pinned (OpenSpec.ofChange Rows.mappingIgnoresSpec) :=
 OpenClaim.holds_of_wide 4 Try.f4 rfl rfl rfl rfl rfl rfl rfl ⟨rfl,rfl,rfl,rfl,rfl⟩ rfl rfl rfl rfl rfl (by kernel_rfl) Try.func4 closed
  (of_decide_eq_true (by kernel_rfl)) (by unfold Func.isWrapper;first|(rw [if_pos (by decide +kernel)];kernel_rfl)|(rw [if_neg (by decide +kernel)];exact ⟨rfl,rfl⟩))
  (λos started H enc _=>lifted os started H enc)
theorem mappingIgnores_holds:Rows.MappingIgnoresSaid:=EG
#print axioms mappingIgnores_holds
end Go.Proofs.Ythnhbemmlfaihaa
