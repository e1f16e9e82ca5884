/- The given statement is proved: for every input the law returns true, and its arguments read as they did. There are no conditions. -/
import Derived.Test.YthnhbemmlfaihaaR13
import Derived.Test.YthnhbemmlfaihaaR37
import Derived.Test.YthnhbemmlfaihaaRows
set_option linter.unusedVariables false
set_option linter.unusedSimpArgs false
set_option maxRecDepth 10000
set_option maxHeartbeats 64000000
namespace Go.Proofs.Ythnhbemmlfaihaa
open Go.ChangeShapes Go.WideShapes Go.ChangeAt Go.RowKit Go.Vc Go.Proofs.Pk
theorem own:ownKnob Try.prog.godebug=none:=by kernel_rfl
theorem laidOut:laidOutB Try.prog=true:=by kernel_rfl
theorem rows:∀t∈Try.f3.params.toList,Try.prog.readableRec t=true/\t < Try.prog.types.size:=by
 intro t ht
 rw [Try.params3] at ht
 simp at ht
 rcases ht with rfl|rfl|rfl<;>exact ⟨by kernel_rfl,by decide +kernel⟩
def akV:Ty:=.pair (.sl (.int .u8)) (.pair (.sl (ou (.int .u8) 5)) (.pair (.sl (ou (.int .u8) 4)) .unit))
theorem akW:sC Try.prog 8 26=some akV:=by kernel_rfl
def akX:Ty:=ou (.int .u8) 3
theorem akY:sC Try.prog 8 27=some akX:=by kernel_rfl
def ty3:Ty:=.int .i64
theorem is3:sC Try.prog 8 3=some ty3:=by kernel_rfl
set_option maxRecDepth 100000 in
theorem lifted (os:Os) (started:os.Started) (H:Type) (enc:TypeId × Value->H) :
  ReturnsInHanded {} Try.checked os 3 .any (Rows.mappingRefusesSpec.pre6 enc Try.prog Try.f3 Rows.mappingRefusesRow.domain false) (Rows.mappingRefusesSpec.post enc Try.prog Try.f3 false true false false):=by
 refine returnsInHanded_of_change (C:=Try.checked) own started (by kernel_rfl) Try.func3
  (ChangeSpec.witness6 (enc:=enc) (C:=Try.checked) false ⟨#[],#[.agg #[.slice none 0 0,.slice none 0 0,.slice none 0 0],.agg #[.int .u8 0,.int .u8 0,.int .u8 0],.int .i64 0],[]⟩ 3 (by kernel_rfl) (by kernel_rfl) (by kernel_rfl) (by kernel_rfl)) ?_
 intro W base args ds gs before ait hW ar5 _
 have q7:∀(j:Nat) t v,Try.f3.params[j]?=some t->args[j]?=some v->Value.okWide Try.prog W .any base t v:=ait
 have hW':=hW
 obtain ⟨p,q,yN,hV,rfl,Kf,fB⟩:=hW
 have hA:DataW.TrodAll enc Try.prog W 0 (λ_=>true) true Try.f3.params.toList args.toList ds p:=yN
 rw [Try.params3] at hA q7
 obtain ⟨v0,vs0,d0,ds0,p0,q0,lH,rfl,rfl,h0,r0⟩:=trodAll_cons hA
 obtain ⟨v1,vs1,d1,ds1,p1,q1,rfl,rfl,rfl,h1,r1⟩:=trodAll_cons r0
 obtain ⟨v2,Z4,d2,ds2,p2,q2,rfl,rfl,rfl,h2,r2⟩:=trodAll_cons r1
 obtain ⟨rfl,rfl,rfl⟩:=trodAll_nil r2
 obtain rfl:args=#[v0,v1,v2]:=by cases args;simp_all
 obtain ⟨rfl,rfl⟩:=trodVars_none hV
 obtain ⟨y0,w0,z0⟩:=M6 akW (q7 0 26 v0 rfl rfl) h0
 obtain ⟨y1,w1,z1⟩:=M6 akY (q7 1 27 v1 rfl rfl) h1
 obtain ⟨y2,w2,z2⟩:=M6 is3 (q7 2 3 v2 rfl rfl) h2
 refine (adQ (S:=rfR) (fid:=3) (w:=W) (vals:=[v0,v1,v2]) ag8 (⟨⟨y0.1,y0.2.1,y0.2.2.1⟩,y1,y2⟩:QJ) (⟨⟨w0.1.2,w0.2.1.2,w0.2.2.1.2⟩,w1⟩) rfl ?_).mono λe W' ⟨he,hb⟩=>?_
 ·exact gC z0 (gC z1 (z2))
 ·subst he
  exact ⟨_,rfl,adP laidOut rows (tb:=4) (by kernel_rfl) Try.underlying4 rfl rfl rfl rfl hW' hb⟩
set_option maxHeartbeats 8000000 in
theorem closed:joinedFacts Try.pinned.checked.prog 3 Try.f3 Rows.mappingRefusesSpec Rows.mappingRefusesRow=true:=by
 unfold joinedFacts
 simp only [cu]
 repeat' apply And.intro
 all_goals decide +kernel
theorem Fk:Rows.mappingRefusesRow.holds Try.pinned (OpenSpec.ofChange Rows.mappingRefusesSpec) :=
 OpenClaim.holds_of_wide 3 Try.f3 rfl rfl rfl rfl rfl rfl rfl ⟨rfl,rfl,rfl,rfl,rfl⟩ rfl rfl rfl rfl rfl (by kernel_rfl) Try.func3 closed
  (of_decide_eq_true (by kernel_rfl)) (by unfold Func.isWrapper;first|(rw [if_pos (by decide +kernel)];kernel_rfl)|(rw [if_neg (by decide +kernel)];exact ⟨rfl,rfl⟩))
  (λos started H enc _=>lifted os started H enc)
theorem mappingRefuses_holds:Rows.MappingRefusesSaid:=Fk
#print axioms mappingRefuses_holds
end Go.Proofs.Ythnhbemmlfaihaa
