/- The given statement is proved: for every input the law returns true, and its arguments read as they did. There are no conditions. -/
import Derived.Test.YthnhbemmlfaihaaGreatT12
import Derived.Test.YthnhbemmlfaihaaGreatT42
import Derived.Test.YthnhbemmlfaihaaGreatRows
set_option linter.unusedVariables false
set_option linter.unusedSimpArgs false
set_option maxRecDepth 10000
set_option maxHeartbeats 64000000
namespace Go.Proofs.YthnhbemmlfaihaaGreat
open Go.ChangeShapes Go.WideShapes Go.ChangeAt Go.RowKit Go.Vc Go.Proofs.Pk
theorem own:ownKnob Tryz.prog.godebug=none:=by kernel_rfl
theorem laidOut:laidOutB Tryz.prog=true:=by kernel_rfl
theorem rows:∀t∈Tryz.f4.params.toList,Tryz.prog.readableRec t=true/\t < Tryz.prog.types.size:=by
 intro t ht
 rw [Tryz.params4] at ht
 simp at ht
 rcases ht with rfl|rfl<;>exact ⟨by kernel_rfl,by decide +kernel⟩
def avT:Ty:=.pair (.pair (.sl (.int .u8)) .unit) (.pair (.sl (.int .u8)) (.pair (.sl (.int .u8)) (.pair (.sl (.int .u8)) .unit)))
theorem avU:x6 Tryz.prog 8 26=some avT:=by kernel_rfl
def avV:Ty:=.sl (.int .u8)
theorem avW:x6 Tryz.prog 8 22=some avV:=by kernel_rfl
set_option maxRecDepth 100000 in
theorem lifted (os:Os) (started:os.Started) (H:Type) (enc:TypeId × Value->H) :
  ReturnsInHanded {} Tryz.checked os 4 .any (Rows.packingKeysSpec.pre6 enc Tryz.prog Tryz.f4 Rows.packingKeysRow.domain false) (Rows.packingKeysSpec.post enc Tryz.prog Tryz.f4 false true false false):=by
 refine returnsInHanded_of_change (C:=Tryz.checked) own started (by kernel_rfl) Tryz.func4
  (ChangeSpec.witness6 (enc:=enc) (C:=Tryz.checked) false ⟨#[],#[.agg #[.slice none 0 0,.slice none 0 0,.slice none 0 0,.slice none 0 0],.slice none 0 0],[]⟩ 4 (by kernel_rfl) (by kernel_rfl) (by kernel_rfl) (by kernel_rfl)) ?_
 intro W base args ds gs before as9 hW aBv _
 have wI:∀(j:Nat) t v,Tryz.f4.params[j]?=some t->args[j]?=some v->Value.okWide Tryz.prog W .any base t v:=as9
 have hW':=hW
 obtain ⟨p,q,By,hV,rfl,Rn,gG⟩:=hW
 have hA:DataW.TrodAll enc Tryz.prog W 0 (λ_=>true) true Tryz.f4.params.toList args.toList ds p:=By
 rw [Tryz.params4] at hA wI
 obtain ⟨v0,vs0,d0,ds0,p0,q0,oF,rfl,rfl,h0,r0⟩:=trodAll_cons hA
 obtain ⟨v1,vs1,d1,ds1,p1,q1,rfl,rfl,rfl,h1,r1⟩:=trodAll_cons r0
 obtain ⟨rfl,rfl,rfl⟩:=trodAll_nil r1
 obtain rfl:args=#[v0,v1]:=by cases args;simp_all
 obtain ⟨rfl,rfl⟩:=trodVars_none hV
 obtain ⟨y0,w0,z0⟩:=adL avU (wI 0 26 v0 rfl rfl) h0
 obtain ⟨y1,w1,z1⟩:=adL avW (wI 1 22 v1 rfl rfl) h1
 refine (aok (S:=keS) (fid:=4) (w:=W) (vals:=[v0,v1]) arw (⟨y0.1.1,y0.2.1,y0.2.2.1,y0.2.2.2.1,y1⟩:Ke) (⟨ZC w0.1.1,ZC w0.2.2.2.1,ZC w1⟩) rfl ?_).mono λe W' ⟨he,hb⟩=>?_
 ·exact jG z0 (z1)
 ·subst he
  exact ⟨_,rfl,aoj laidOut rows (tb:=4) (by kernel_rfl) Tryz.underlying4 rfl rfl rfl rfl hW' hb⟩
set_option maxHeartbeats 8000000 in
theorem closed:joinedFacts Tryz.pinned.checked.prog 4 Tryz.f4 Rows.packingKeysSpec Rows.packingKeysRow=true:=by
 unfold joinedFacts
 simp only [er]
 repeat' apply And.intro
 all_goals decide +kernel
theorem CS:Rows.packingKeysRow.holds Tryz.pinned (OpenSpec.ofChange Rows.packingKeysSpec) :=
 OpenClaim.holds_of_wide 4 Tryz.f4 rfl rfl rfl rfl rfl rfl rfl ⟨rfl,rfl,rfl,rfl,rfl⟩ rfl rfl rfl rfl rfl (by kernel_rfl) Tryz.func4 closed
  (of_decide_eq_true (by kernel_rfl)) (by unfold Func.isWrapper;first|(rw [if_pos (by decide +kernel)];kernel_rfl)|(rw [if_neg (by decide +kernel)];exact ⟨rfl,rfl⟩))
  (λos started H enc _=>lifted os started H enc)
theorem packingKeys_holds:Rows.PackingKeysSaid:=CS
#print axioms packingKeys_holds
end Go.Proofs.YthnhbemmlfaihaaGreat
