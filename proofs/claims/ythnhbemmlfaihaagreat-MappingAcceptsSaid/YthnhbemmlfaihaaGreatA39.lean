/- The given statement is proved: for every input the law returns true, and its arguments read as they did. There are no conditions. -/
import Derived.Test.YthnhbemmlfaihaaGreatA13
import Derived.Test.YthnhbemmlfaihaaGreatA38
import Derived.Test.YthnhbemmlfaihaaGreatRows
set_option linter.unusedVariables false
set_option linter.unusedSimpArgs false
set_option maxRecDepth 10000
set_option maxHeartbeats 64000000
namespace Go.Proofs.YthnhbemmlfaihaaGreat
open Go.ChangeShapes Go.WideShapes Go.ChangeAt Go.RowKit Go.Vc Go.Proofs.Pk
theorem own:ownKnob Tryz.prog.godebug=none:=by kernel_rfl
theorem laidOut:laidOutB Tryz.prog=true:=by kernel_rfl
theorem rows:∀t∈Tryz.f8.params.toList,Tryz.prog.readableRec t=true/\t < Tryz.prog.types.size:=by
 intro t ht
 rw [Tryz.params8] at ht
 simp at ht
 subst ht
 exact ⟨by kernel_rfl,by decide +kernel⟩
def aks:Ty:=.pair (.sl (.int .u8)) (.pair (.sl (pd (.int .u8) 5)) (.pair (.sl (pd (.int .u8) 4)) .unit))
theorem akt:uL Tryz.prog 8 85=some aks:=by kernel_rfl
set_option maxRecDepth 100000 in
theorem lifted (os:Os) (started:os.Started) (H:Type) (enc:TypeId × Value->H) :
  ReturnsInHanded {} Tryz.checked os 8 .any (Rows.mappingAcceptsSpec.pre6 enc Tryz.prog Tryz.f8 Rows.mappingAcceptsRow.domain false) (Rows.mappingAcceptsSpec.post enc Tryz.prog Tryz.f8 false true false false):=by
 refine returnsInHanded_of_change (C:=Tryz.checked) own started (by kernel_rfl) Tryz.func8
  (ChangeSpec.witness6 (enc:=enc) (C:=Tryz.checked) false ⟨#[],#[.agg #[.slice none 0 0,.slice none 0 0,.slice none 0 0]],[]⟩ 8 (by kernel_rfl) (by kernel_rfl) (by kernel_rfl) (by kernel_rfl)) ?_
 intro W base args ds gs before ahX hW arq _
 have tB:∀(j:Nat) t v,Tryz.f8.params[j]?=some t->args[j]?=some v->Value.okWide Tryz.prog W .any base t v:=ahX
 have hW':=hW
 obtain ⟨p,q,yd,hV,rfl,J1,ff⟩:=hW
 have hA:DataW.TrodAll enc Tryz.prog W 0 (λ_=>true) true Tryz.f8.params.toList args.toList ds p:=yd
 rw [Tryz.params8] at hA tB
 obtain ⟨v0,vs0,d0,ds0,p0,q0,lB,rfl,rfl,h0,r0⟩:=trodAll_cons hA
 obtain ⟨rfl,rfl,rfl⟩:=trodAll_nil r0
 obtain rfl:args=#[v0]:=by cases args;simp_all
 obtain ⟨rfl,rfl⟩:=trodVars_none hV
 obtain ⟨y0,w0,z0⟩:=aeA akt (tB 0 85 v0 rfl rfl) h0
 refine (adq (S:=acR) (fid:=8) (w:=W) (vals:=[v0]) agG (⟨y0.1,y0.2.1,y0.2.2.1⟩:yx) (⟨w0.1.2,w0.2.1.2,w0.2.2.1.2⟩) rfl ?_).mono λe W' ⟨he,hb⟩=>?_
 ·exact z0
 ·subst he
  exact ⟨_,rfl,adp laidOut rows (tb:=4) (by kernel_rfl) Tryz.underlying4 rfl rfl rfl rfl hW' hb⟩
set_option maxHeartbeats 8000000 in
theorem closed:joinedFacts Tryz.pinned.checked.prog 8 Tryz.f8 Rows.mappingAcceptsSpec Rows.mappingAcceptsRow=true:=by
 unfold joinedFacts
 simp only [b9]
 repeat' apply And.intro
 all_goals decide +kernel
theorem EV:Rows.mappingAcceptsRow.holds Tryz.pinned (OpenSpec.ofChange Rows.mappingAcceptsSpec) :=
 OpenClaim.holds_of_wide 8 Tryz.f8 rfl rfl rfl rfl rfl rfl rfl ⟨rfl,rfl,rfl,rfl,rfl⟩ rfl rfl rfl rfl rfl (by kernel_rfl) Tryz.func8 closed
  (of_decide_eq_true (by kernel_rfl)) (by unfold Func.isWrapper;first|(rw [if_pos (by decide +kernel)];kernel_rfl)|(rw [if_neg (by decide +kernel)];exact ⟨rfl,rfl⟩))
  (λos started H enc _=>lifted os started H enc)
theorem mappingAccepts_holds:Rows.MappingAcceptsSaid:=EV
#print axioms mappingAccepts_holds
end Go.Proofs.YthnhbemmlfaihaaGreat
