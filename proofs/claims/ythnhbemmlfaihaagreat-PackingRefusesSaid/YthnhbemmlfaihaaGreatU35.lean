/- The given statement is proved: for every input the law returns true, and its arguments read as they did. There are no conditions. -/
import Derived.Test.YthnhbemmlfaihaaGreatU7
import Derived.Test.YthnhbemmlfaihaaGreatU8
import Derived.Test.YthnhbemmlfaihaaGreatU34
import Derived.Test.YthnhbemmlfaihaaGreatRows
set_option linter.unusedVariables false
set_option linter.unusedSimpArgs false
set_option maxRecDepth 10000
set_option maxHeartbeats 64000000
namespace Go.Proofs.YthnhbemmlfaihaaGreat
open Go.ChangeShapes Go.WideShapes Go.ChangeAt Go.RowKit Go.Vc Go.Proofs.Pk
theorem own:ownKnob Tryz.prog.godebug=none:=by kernel_rfl
theorem laidOut:laidOutB Tryz.prog=true:=by kernel_rfl
theorem rows:∀t∈Tryz.f5.params.toList,Tryz.prog.readableRec t=true/\t < Tryz.prog.types.size:=by
 intro t ht
 rw [Tryz.params5] at ht
 simp at ht
 rcases ht with rfl|rfl<;>exact ⟨by kernel_rfl,by decide +kernel⟩
def avN:Ty:=.pair (.pair (.sl (.int .u8)) .unit) (.pair (.sl (.int .u8)) (.pair (.sl (.int .u8)) (.pair (.sl (.int .u8)) .unit)))
theorem avO:xU Tryz.prog 8 26=some avN:=by kernel_rfl
def avP:Ty:=wq (.int .u8) 3
theorem avQ:xU Tryz.prog 8 78=some avP:=by kernel_rfl
set_option maxRecDepth 100000 in
theorem lifted (os:Os) (started:os.Started) (H:Type) (enc:TypeId × Value->H) :
  ReturnsInHanded {} Tryz.checked os 5 .any (Rows.packingRefusesSpec.pre6 enc Tryz.prog Tryz.f5 Rows.packingRefusesRow.domain false) (Rows.packingRefusesSpec.post enc Tryz.prog Tryz.f5 false true false false):=by
 refine returnsInHanded_of_change (C:=Tryz.checked) own started (by kernel_rfl) Tryz.func5
  (ChangeSpec.witness6 (enc:=enc) (C:=Tryz.checked) false ⟨#[],#[.agg #[.slice none 0 0,.slice none 0 0,.slice none 0 0,.slice none 0 0],.agg #[.int .u8 0,.int .u8 0,.int .u8 0]],[]⟩ 5 (by kernel_rfl) (by kernel_rfl) (by kernel_rfl) (by kernel_rfl)) ?_
 intro W base args ds gs before asS hW aBO _
 have wF:∀(j:Nat) t v,Tryz.f5.params[j]?=some t->args[j]?=some v->Value.okWide Tryz.prog W .any base t v:=asS
 have hW':=hW
 obtain ⟨p,q,Be,hV,rfl,Ro,gI⟩:=hW
 have hA:DataW.TrodAll enc Tryz.prog W 0 (λ_=>true) true Tryz.f5.params.toList args.toList ds p:=Be
 rw [Tryz.params5] at hA wF
 obtain ⟨v0,vs0,d0,ds0,p0,q0,oE,rfl,rfl,h0,r0⟩:=trodAll_cons hA
 obtain ⟨v1,vs1,d1,ds1,p1,q1,rfl,rfl,rfl,h1,r1⟩:=trodAll_cons r0
 obtain ⟨rfl,rfl,rfl⟩:=trodAll_nil r1
 obtain rfl:args=#[v0,v1]:=by cases args;simp_all
 obtain ⟨rfl,rfl⟩:=trodVars_none hV
 obtain ⟨y0,w0,z0⟩:=adA avO (wF 0 26 v0 rfl rfl) h0
 obtain ⟨y1,w1,z1⟩:=adA avQ (wF 1 78 v1 rfl rfl) h1
 refine (an3 (S:=rfS) (fid:=5) (w:=W) (vals:=[v0,v1]) arc (⟨y0.1.1,y0.2.1,y0.2.2.1,y0.2.2.2.1,y1.1,y1.2.1,y1.2.2.1⟩:Rf) (⟨bys w0.1.1,bys w0.2.2.2.1,Zs w1.1,Zs w1.2.1,Zs w1.2.2.1⟩) rfl ?_).mono λe W' ⟨he,hb⟩=>?_
 ·exact jN z0 (z1)
 ·subst he
  exact ⟨_,rfl,an2 laidOut rows (tb:=4) (by kernel_rfl) Tryz.underlying4 rfl rfl rfl rfl hW' hb⟩
set_option maxHeartbeats 8000000 in
theorem closed:joinedFacts Tryz.pinned.checked.prog 5 Tryz.f5 Rows.packingRefusesSpec Rows.packingRefusesRow=true:=by
 unfold joinedFacts
 simp only [eh]
 repeat' apply And.intro
 all_goals decide +kernel
theorem CD:Rows.packingRefusesRow.holds Tryz.pinned (OpenSpec.ofChange Rows.packingRefusesSpec) :=
 OpenClaim.holds_of_wide 5 Tryz.f5 rfl rfl rfl rfl rfl rfl rfl ⟨rfl,rfl,rfl,rfl,rfl⟩ rfl rfl rfl rfl rfl (by kernel_rfl) Tryz.func5 closed
  (of_decide_eq_true (by kernel_rfl)) (by unfold Func.isWrapper;first|(rw [if_pos (by decide +kernel)];kernel_rfl)|(rw [if_neg (by decide +kernel)];exact ⟨rfl,rfl⟩))
  (λos started H enc _=>lifted os started H enc)
theorem packingRefuses_holds:Rows.PackingRefusesSaid:=CD
#print axioms packingRefuses_holds
end Go.Proofs.YthnhbemmlfaihaaGreat
