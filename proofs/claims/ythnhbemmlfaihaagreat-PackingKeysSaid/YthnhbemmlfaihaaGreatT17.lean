import Derived.Test.YthnhbemmlfaihaaGreatT12
import Derived.Test.YthnhbemmlfaihaaGreatT15
import Derived.Test.YthnhbemmlfaihaaGreatT16
set_option linter.unusedVariables false
set_option linter.unusedSimpArgs false
set_option maxRecDepth 10000
set_option maxHeartbeats 64000000
namespace Go.Proofs.Pk
open Go Go.Vc
noncomputable def nT (n:Net) (v:Int):Bool:=decide (2+(n.ins.length:Int)<=v)&&match n.gP[(v - 2 - n.ins.length).toNat]? with|some g=>g.op == 7|none=>false
@[reducible] noncomputable def I1:Vc.Spec where
 α:=NV
 args x:=[.agg (sH x.n),.i .i64 (λ_=>x.v)]
 pre x:=eU x.n/\0<=x.v/\x.v < fT x.n
 res x:=.b (λ_=>nT x.n x.v)
theorem KY:cW (PP ()) 107 I1:=by
 refine dT (iR 0 0) (fo Tryz.func107) (λa=>⟨tZ a.n,trivial,trivial⟩) (λa=>trivial) ?_
 rintro ⟨⟨ins,gs,outs,dr⟩,v⟩ hx
 obtain ⟨hn,h0,h1⟩:eU ⟨ins,gs,outs,dr⟩/\0<=v/\v < 2+(ins.length:Int)+gs.length:=hx
 have wK:2+ins.length+gs.length<=600:=hn.pI
 have hw:IntKind.i64.wrap (2+(ins.length:Int))=2+(ins.length:Int):=by rw [cD (by omega) (by omega)]
 refine ⟨?_⟩
 cbv
 refine ⟨λh=>?_,λh=>?_⟩
 ·have hv:2+(ins.length:Int)<=v:=by have h':cU (IntKind.i64.wrap (2+(ins.length:Int))) v=true:=h.out;rw [hw] at h';simp only [cU,decide_eq_true_eq] at h';exact h'
  obtain ⟨g,hg⟩:=bB (l:=gs) (i:=(v - 2 - ins.length).toNat) (by exact aU)
  have gE:(0<=IntKind.i64.wrap (IntKind.i64.wrap (v - 2) - (ins.length:Int)))/\gs[(IntKind.i64.wrap (IntKind.i64.wrap (v - 2) - (ins.length:Int))).toNat]?=some g:=by
   rw [cD (n:=v - 2) (by exact aU) (by exact aU),cD (by exact aU) (by exact aU)];exact ⟨by exact aU,hg⟩
  have e:nT ⟨ins,gs,outs,dr⟩ v=aV g.op 7:=by
   unfold nT aV
   simp only
   rw [hg]
   simp [hv]
  cbv
  refine ⟨g,⟨gE⟩,?_⟩
  cbv
  exact ⟨.b e.symm⟩
 ·have hv:¬2+(ins.length:Int)<=v:=by have h':cU (IntKind.i64.wrap (2+(ins.length:Int))) v=false:=h.out;rw [hw] at h';simp only [cU,decide_eq_false_iff_not] at h';exact h'
  have e:nT ⟨ins,gs,outs,dr⟩ v=false:=by unfold nT;simp [hv]
  cbv
  exact ⟨.bc e.symm⟩
@[reducible] noncomputable def asd:fO where
 α:=LL
 args x:=[.sl 1 bK (λ_=>x.a),.sl 1 bK (λ_=>x.b)]
 pre x:=x.b.length<=1000000/\∀z∈x.b,0<=z/\z < x.a.length
 β:=Int
 post x y:=True
 res x y:=.i .i64 (λ_=>y)
theorem UH:eM PP 106 asd:=by
 refine iQ (iR 0 0) (fo Tryz.func106) (λa=>⟨(λx=>(cP x).1),(λx=>(cP x).1),trivial⟩) (λa y=>trivial) ?_
 rintro ⟨a,b⟩ hx
 obtain ⟨hb,hm⟩:b.length<=1000000/\∀z∈b,0<=z/\z < a.length:=hx
 refine ⟨?_⟩
 cbv
 refine Sat.cd (iR 0 0) 0 5 [] (λx:Nat × Int=>[(5,.i .i64 λ_=>x.2),(6,.i .i64 λ_=>(x.1:Int))]) (λ_=>[]) (λx=>x.1<=b.length) (λx=>b.length - x.1) (0,0) (by exact ao) (by exact ao) (by simp) ?_
 rintro ⟨i,d⟩ hi
 have hi:i<=b.length:=hi
 have h0:=n0 i
 have h1:=cj (i:=i) (by omega)
 cbv
 refine ⟨λh=>?_,λh=>?_⟩
 ·(have h:=h.out;simp (disch:=exact aU) only [hS] at h)
  have aR:i < b.length:=by exact aU
  have a7:i+1<=b.length/\b.length - (i+1) < b.length - i:=by omega
  obtain ⟨x,hx⟩:=bB aR
  have hxa:=hm x (cb hx)
  obtain ⟨u,hu⟩:=bB (l:=a) (i:=x.toNat) (by exact aU)
  cbv
  refine ⟨x,⟨h0,hx⟩,?_⟩
  cbv
  refine ⟨u,⟨hxa.1,hu⟩,?_⟩
  cbv
  refine ⟨(i+1,max d u),by have bm:=h1;exact bI,by exact ao,⟨a7⟩⟩
 ·cbv
  exact .mk' d ⟨by exact aL⟩ trivial
structure PQ where
 n:Net
 root:List Int
 leaves:List (List Int)
 v:Int
structure aqD (x:PQ) (y:Int):Prop where
 lo:x.v < 2+x.n.ins.length->y=x.v
 hi:x.v∈x.root->0<=y/\y < 2+x.n.ins.length+x.root.length
def ur (x:PQ):Int:=if x.v < 2+x.n.ins.length then x.v else match x.root.findIdx? (λz=>decide (z=x.v)) with
 | some i=>2+x.n.ins.length+i
 | none=>-1
theorem apz (x:PQ) (h:0<=x.v):aqD x (ur x):=by
 refine ⟨λaR=>by unfold ur;rw [if_pos aR],λhm=>?_⟩
 unfold ur
 split
 ·omega
 ·split
  ·rename_i i hi
   have:=(Es.1 hi).1
   omega
  ·rename_i hi
   rw [J2] at hi
   have:=hi _ hm
   simp at this
@[reducible] noncomputable def W3:Vc.Spec where
 α:=PQ
 args x:=[.agg (sH x.n),.agg [.sl 1 bK (λ_=>x.root),.sl 1 jd (λ_=>x.leaves)],.i .i64 (λ_=>x.v)]
 pre x:=x.n.ins.length<=1000/\x.root.length<=1000000/\0<=x.v
 res x:=.i .i64 (λ_=>ur x)
theorem aeS:cW (PP ()) 118 W3:=by
 refine dT (iR 0 0) (fo Tryz.func118) (λa=>⟨tZ a.n,⟨(λx=>(cP x).1),(λx=>(qa x).1),trivial⟩,trivial,trivial⟩) (λa=>trivial) ?_
 rintro ⟨⟨ins,gs,outs,dr⟩,root,leaves,v⟩ hx
 obtain ⟨hi,hr,iq⟩:ins.length<=1000/\root.length<=1000000/\0<=v:=hx
 have hw:IntKind.i64.wrap (2+(ins.length:Int))=2+(ins.length:Int):=by rw [cD (by omega) (by omega)]
 refine ⟨?_⟩
 cbv
 refine ⟨λh=>?_,λh=>?_⟩
 ·have hv:v < 2+(ins.length:Int):=by have h':aS v (IntKind.i64.wrap (2+(ins.length:Int)))=true:=h.out;rw [hw] at h';simp only [aS,decide_eq_true_eq] at h';exact h'
  have e:ur ⟨⟨ins,gs,outs,dr⟩,root,leaves,v⟩=v:=by unfold ur;rw [if_pos hv]
  cbv
  exact ⟨.i e.symm⟩
 ·have hv:¬v < 2+(ins.length:Int):=by have h':aS v (IntKind.i64.wrap (2+(ins.length:Int)))=false:=h.out;rw [hw] at h';simp only [aS,decide_eq_false_iff_not] at h';exact h'
  cbv
  refine Sat.cd (iR 0 0) 2 7 [] (λi:Nat=>[(7,.i .i64 λ_=>(i:Int))]) (λ_=>[]) (λi=>i<=root.length/\∀j,j < i->root[j]?≠some v) (λi=>root.length - i) 0 (by exact ao) (by exact ao) ⟨by simp,λj hj=>by omega⟩ ?_
  rintro i ⟨bq,eA⟩
  have h0:=n0 i
  have h1:=cj (i:=i) (by omega)
  cbv
  refine ⟨λh=>?_,λh=>?_⟩
  ·(have h:=h.out;simp (disch:=exact aU) only [hS] at h)
   have aR:i < root.length:=by exact aU
   have a7:root.length - (i+1) < root.length - i:=by omega
   obtain ⟨x,hx⟩:=bB aR
   have tI:IntKind.i64.wrap (IntKind.i64.wrap (2+(ins.length:Int))+(i:Int))=2+(ins.length:Int)+i:=by rw [hw,cD (by exact aU) (by exact aU)]
   cbv
   refine ⟨x,⟨h0,hx⟩,?_⟩
   cbv
   refine ⟨λh=>?_,λh=>?_⟩
   ·have oR:x=v:=bG
    have e:IntKind.i64.wrap (IntKind.i64.wrap (2+(ins.length:Int))+(i:Int))=ur ⟨⟨ins,gs,outs,dr⟩,root,leaves,v⟩:=by
     rw [tI]
     unfold ur
     rw [if_neg hv]
     have:root.findIdx? (λz=>decide (z=v))=some i:=by
      rw [Es]
      refine ⟨aR,by rw [ep aR] at hx;simp at hx;simp [hx,oR],λj hj=>?_⟩
      have:=eA j hj
      rw [ep (by omega)] at this
      simpa using this
     simp only
     rw [this]
    cbv
    exact ⟨.i e⟩
   ·have cT:x≠v:=bG
    cbv
    exact ⟨i+1,by have bm:=h1;exact bI,by exact ao,⟨⟨aR,λj hj=>by
     by_cases nS:j=i
     ·subst nS;rw [hx];simpa using cT
     ·exact eA j (by omega)⟩,a7⟩⟩
  ·have bS:i=root.length:=by have h':aS (i:Int) (root.length:Int)=false:=h.out;simp only [aS,decide_eq_false_iff_not] at h';exact aU
   have e:ur ⟨⟨ins,gs,outs,dr⟩,root,leaves,v⟩=-1:=by
    unfold ur
    rw [if_neg hv]
    have:root.findIdx? (λz=>decide (z=v))=none:=by
     rw [J2]
     intro x hx
     obtain ⟨j,hj⟩:=nC hx
     have eE:=(bY.1 hj).1
     have:=eA j (by have:j < root.length:=eE;omega)
     rw [hj] at this
     simpa using this
    simp only
    rw [this]
   cbv
   exact ⟨.ic e.symm⟩
end Go.Proofs.Pk
