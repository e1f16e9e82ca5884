/- The given statement is proved: for every input the law returns true, and its arguments read as they did. There are no conditions. -/
import Derived.Test.YthnhbemmlfaihaaGreatO13
import Derived.Test.YthnhbemmlfaihaaGreatO46
import Derived.Test.YthnhbemmlfaihaaGreatRows
set_option linter.unusedVariables false
set_option linter.unusedSimpArgs false
set_option maxRecDepth 10000
set_option maxHeartbeats 64000000
namespace Go.Proofs.YthnhbemmlfaihaaGreat
open Go.ChangeShapes Go.WideShapes Go.ChangeAt Go.RowKit Go.Vc Go.Proofs.Pk
theorem own:ownKnob Tryz.prog.godebug=none:=by kernel_rfl
theorem laidOut:laidOutB Tryz.prog=true:=by kernel_rfl
theorem rows:∀t∈Tryz.f7.params.toList,Tryz.prog.readableRec t=true/\t < Tryz.prog.types.size:=by
 intro t ht
 rw [Tryz.params7] at ht
 simp at ht
 rcases ht with rfl|rfl<;>exact ⟨by kernel_rfl,by decide +kernel⟩
def arK:Ty:=.pair (.sl (.int .u8)) (.pair (.sl (ra (.int .u8) 5)) (.pair (.sl (ra (.int .u8) 4)) .unit))
theorem arL:vR Tryz.prog 8 85=some arK:=by kernel_rfl
def arN:Ty:=.sl (.int .u8)
theorem arO:vR Tryz.prog 8 22=some arN:=by kernel_rfl
set_option maxRecDepth 100000 in
theorem lifted (os:Os) (started:os.Started) (H:Type) (enc:TypeId × Value->H) :
  ReturnsInHanded {} Tryz.checked os 7 .any (Rows.mappingOptimalSpec.pre6 enc Tryz.prog Tryz.f7 Rows.mappingOptimalRow.domain false) (Rows.mappingOptimalSpec.post enc Tryz.prog Tryz.f7 false true false false):=by
 refine returnsInHanded_of_change (C:=Tryz.checked) own started (by kernel_rfl) Tryz.func7
  (ChangeSpec.witness6 (enc:=enc) (C:=Tryz.checked) false ⟨#[],#[.agg #[.slice none 0 0,.slice none 0 0,.slice none 0 0],.slice none 0 0],[]⟩ 7 (by kernel_rfl) (by kernel_rfl) (by kernel_rfl) (by kernel_rfl)) ?_
 intro W base args ds gs before aow hW azF _
 have uG:∀(j:Nat) t v,Tryz.f7.params[j]?=some t->args[j]?=some v->Value.okWide Tryz.prog W .any base t v:=aow
 have hW':=hW
 obtain ⟨p,q,AZ,hV,rfl,NN,fM⟩:=hW
 have hA:DataW.TrodAll enc Tryz.prog W 0 (λ_=>true) true Tryz.f7.params.toList args.toList ds p:=AZ
 rw [Tryz.params7] at hA uG
 obtain ⟨v0,vs0,d0,ds0,p0,q0,mY,rfl,rfl,h0,r0⟩:=trodAll_cons hA
 obtain ⟨v1,vs1,d1,ds1,p1,q1,rfl,rfl,rfl,h1,r1⟩:=trodAll_cons r0
 obtain ⟨rfl,rfl,rfl⟩:=trodAll_nil r1
 obtain rfl:args=#[v0,v1]:=by cases args;simp_all
 obtain ⟨rfl,rfl⟩:=trodVars_none hV
 obtain ⟨y0,w0,z0⟩:=Zn arL (uG 0 85 v0 rfl rfl) h0
 obtain ⟨y1,w1,z1⟩:=Zn arO (uG 1 22 v1 rfl rfl) h1
 refine (ai2 (S:=adB) (fid:=7) (w:=W) (vals:=[v0,v1]) alc (⟨⟨y0.1,y0.2.1,y0.2.2.1⟩,y1⟩:Tj) (⟨⟨w0.1.2,w0.2.1.2,w0.2.2.1.2⟩,w1.2⟩) rfl ?_).mono λe W' ⟨he,hb⟩=>?_
 ·exact iS z0 (z1)
 ·subst he
  exact ⟨_,rfl,ai1 laidOut rows (tb:=4) (by kernel_rfl) Tryz.underlying4 rfl rfl rfl rfl hW' hb⟩
set_option maxHeartbeats 8000000 in
theorem closed:joinedFacts Tryz.pinned.checked.prog 7 Tryz.f7 Rows.mappingOptimalSpec Rows.mappingOptimalRow=true:=by
 unfold joinedFacts
 simp only [cG]
 repeat' apply And.intro
 all_goals decide +kernel
theorem Ih:Rows.mappingOptimalRow.holds Tryz.pinned (OpenSpec.ofChange Rows.mappingOptimalSpec) :=
 OpenClaim.holds_of_wide 7 Tryz.f7 rfl rfl rfl rfl rfl rfl rfl ⟨rfl,rfl,rfl,rfl,rfl⟩ rfl rfl rfl rfl rfl (by kernel_rfl) Tryz.func7 closed
  (of_decide_eq_true (by kernel_rfl)) (by unfold Func.isWrapper;first|(rw [if_pos (by decide +kernel)];kernel_rfl)|(rw [if_neg (by decide +kernel)];exact ⟨rfl,rfl⟩))
  (λos started H enc _=>lifted os started H enc)
theorem mappingOptimal_holds:Rows.MappingOptimalSaid:=Ih
#print axioms mappingOptimal_holds
end Go.Proofs.YthnhbemmlfaihaaGreat
