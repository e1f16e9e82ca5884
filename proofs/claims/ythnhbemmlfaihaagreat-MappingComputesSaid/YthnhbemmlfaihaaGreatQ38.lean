/- The given statement is proved: for every input the law returns true, and its arguments read as they did. There are no conditions. -/
import Derived.Test.YthnhbemmlfaihaaGreatQ11
import Derived.Test.YthnhbemmlfaihaaGreatQ37
import Derived.Test.YthnhbemmlfaihaaGreatRows
set_option linter.unusedVariables false
set_option linter.unusedSimpArgs false
set_option maxRecDepth 10000
set_option maxHeartbeats 64000000
namespace Go.Proofs.YthnhbemmlfaihaaGreat
open Go.ChangeShapes Go.WideShapes Go.ChangeAt Go.RowKit Go.Vc Go.Proofs.Pk
theorem own:ownKnob Tryz.prog.godebug=none:=by kernel_rfl
theorem laidOut:laidOutB Tryz.prog=true:=by kernel_rfl
theorem rows:∀t∈Tryz.f9.params.toList,Tryz.prog.readableRec t=true/\t < Tryz.prog.types.size:=by
 intro t ht
 rw [Tryz.params9] at ht
 simp at ht
 rcases ht with rfl|rfl|rfl<;>exact ⟨by kernel_rfl,by decide +kernel⟩
def auS:Ty:=.pair (.sl (.int .u8)) (.pair (.sl (qW (.int .u8) 5)) (.pair (.sl (qW (.int .u8) 4)) .unit))
theorem auT:vA Tryz.prog 8 85=some auS:=by kernel_rfl
def auU:Ty:=.sl (.int .u8)
theorem auV:vA Tryz.prog 8 22=some auU:=by kernel_rfl
def auW:Ty:=zA
theorem auX:vA Tryz.prog 8 87=some auW:=by kernel_rfl
set_option maxRecDepth 100000 in
theorem lifted (os:Os) (started:os.Started) (H:Type) (enc:TypeId × Value->H) :
  ReturnsInHanded {} Tryz.checked os 9 .any (Rows.mappingComputesSpec.pre6 enc Tryz.prog Tryz.f9 Rows.mappingComputesRow.domain false) (Rows.mappingComputesSpec.post enc Tryz.prog Tryz.f9 false true false false):=by
 refine returnsInHanded_of_change (C:=Tryz.checked) own started (by kernel_rfl) Tryz.func9
  (ChangeSpec.witness6 (enc:=enc) (C:=Tryz.checked) false ⟨#[],#[.agg #[.slice none 0 0,.slice none 0 0,.slice none 0 0],.slice none 0 0,.agg #[.int .i64 0,.slice none 0 0,.slice none 0 0,.int .u8 0,.int .u8 0,.int .u8 0,.int .i64 0,.slice none 0 0,.slice none 0 0]],[]⟩ 9 (by kernel_rfl) (by kernel_rfl) (by kernel_rfl) (by kernel_rfl)) ?_
 intro W base args ds gs before arf hW aC0 _
 have uk:∀(j:Nat) t v,Tryz.f9.params[j]?=some t->args[j]?=some v->Value.okWide Tryz.prog W .any base t v:=arf
 have hW':=hW
 obtain ⟨p,q,BX,hV,rfl,PN,gC⟩:=hW
 have hA:DataW.TrodAll enc Tryz.prog W 0 (λ_=>true) true Tryz.f9.params.toList args.toList ds p:=BX
 rw [Tryz.params9] at hA uk
 obtain ⟨v0,vs0,d0,ds0,p0,q0,nN,rfl,rfl,h0,r0⟩:=trodAll_cons hA
 obtain ⟨v1,vs1,d1,ds1,p1,q1,rfl,rfl,rfl,h1,r1⟩:=trodAll_cons r0
 obtain ⟨v2,vs2,d2,ds2,p2,q2,rfl,rfl,rfl,h2,r2⟩:=trodAll_cons r1
 obtain ⟨rfl,rfl,rfl⟩:=trodAll_nil r2
 obtain rfl:args=#[v0,v1,v2]:=by cases args;simp_all
 obtain ⟨rfl,rfl⟩:=trodVars_none hV
 obtain ⟨y0,w0,z0⟩:=SU auT (uk 0 85 v0 rfl rfl) h0
 obtain ⟨y1,w1,z1⟩:=SU auV (uk 1 22 v1 rfl rfl) h1
 obtain ⟨y2,w2,z2⟩:=SU auX (uk 2 87 v2 rfl rfl) h2
 refine (aln (S:=mcR) (fid:=9) (w:=W) (vals:=[v0,v1,v2]) apA (⟨⟨y0.1,y0.2.1,y0.2.2.1⟩,y1,y2⟩:W8) (⟨⟨w0.1.2,w0.2.1.2,w0.2.2.1.2⟩,w1.2,w2.2.1⟩) rfl ?_).mono λe W' ⟨he,hb⟩=>?_
 ·exact iP z0 (iP z1 (z2))
 ·subst he
  exact ⟨_,rfl,alm laidOut rows (tb:=4) (by kernel_rfl) Tryz.underlying4 rfl rfl rfl rfl hW' hb⟩
set_option maxHeartbeats 8000000 in
theorem closed:joinedFacts Tryz.pinned.checked.prog 9 Tryz.f9 Rows.mappingComputesSpec Rows.mappingComputesRow=true:=by
 unfold joinedFacts
 simp only [cQ]
 repeat' apply And.intro
 all_goals decide +kernel
theorem JY:Rows.mappingComputesRow.holds Tryz.pinned (OpenSpec.ofChange Rows.mappingComputesSpec) :=
 OpenClaim.holds_of_wide 9 Tryz.f9 rfl rfl rfl rfl rfl rfl rfl ⟨rfl,rfl,rfl,rfl,rfl⟩ rfl rfl rfl rfl rfl (by kernel_rfl) Tryz.func9 closed
  (of_decide_eq_true (by kernel_rfl)) (by unfold Func.isWrapper;first|(rw [if_pos (by decide +kernel)];kernel_rfl)|(rw [if_neg (by decide +kernel)];exact ⟨rfl,rfl⟩))
  (λos started H enc _=>lifted os started H enc)
theorem mappingComputes_holds:Rows.MappingComputesSaid:=JY
#print axioms mappingComputes_holds
end Go.Proofs.YthnhbemmlfaihaaGreat
