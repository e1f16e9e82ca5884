import Derived.Test.YthnhbemmlfaihaaGreatU7
import Derived.Test.YthnhbemmlfaihaaGreatU10
import Derived.Test.YthnhbemmlfaihaaGreatU11
set_option linter.unusedVariables false
set_option linter.unusedSimpArgs false
set_option maxRecDepth 10000
set_option maxHeartbeats 64000000
namespace Go.Proofs.Pk
open Go Go.Vc
noncomputable def nP (n:Net) (v:Int):Bool:=decide (2+(n.ins.length:Int)<=v)&&match n.gM[(v - 2 - n.ins.length).toNat]? with|some g=>g.op == 7|none=>false
@[reducible] noncomputable def IJ:Vc.Spec where
 α:=NV
 args x:=[.agg (sB x.n),.i .i64 (λ_=>x.v)]
 pre x:=eX x.n/\0<=x.v/\x.v < fR x.n
 res x:=.b (λ_=>nP x.n x.v)
theorem KI:cZ (PP ()) 107 IJ:=by
 refine dT (iQ 0 0) (fo Tryz.func107) (λa=>⟨tQ a.n,trivial,trivial⟩) (λa=>trivial) ?_
 rintro ⟨⟨ins,gs,outs,dr⟩,v⟩ hx
 obtain ⟨hn,h0,h1⟩:eX ⟨ins,gs,outs,dr⟩/\0<=v/\v < 2+(ins.length:Int)+gs.length:=hx
 have wH:2+ins.length+gs.length<=600:=hn.pF
 have hw:IntKind.i64.wrap (2+(ins.length:Int))=2+(ins.length:Int):=by rw [cu (by omega) (by omega)]
 refine ⟨?_⟩
 cbv
 refine ⟨λh=>?_,λh=>?_⟩
 ·have hv:2+(ins.length:Int)<=v:=by have h':cV (IntKind.i64.wrap (2+(ins.length:Int))) v=true:=h.out;rw [hw] at h';simp only [cV,decide_eq_true_eq] at h';exact h'
  obtain ⟨g,hg⟩:=bD (l:=gs) (i:=(v - 2 - ins.length).toNat) (by exact aT)
  have gu:(0<=IntKind.i64.wrap (IntKind.i64.wrap (v - 2) - (ins.length:Int)))/\gs[(IntKind.i64.wrap (IntKind.i64.wrap (v - 2) - (ins.length:Int))).toNat]?=some g:=by
   rw [cu (n:=v - 2) (by exact aT) (by exact aT),cu (by exact aT) (by exact aT)];exact ⟨by exact aT,hg⟩
  have e:nP ⟨ins,gs,outs,dr⟩ v=aV g.op 7:=by
   unfold nP aV
   simp only
   rw [hg]
   simp [hv]
  cbv
  refine ⟨g,⟨gu⟩,?_⟩
  cbv
  exact ⟨.b e.symm⟩
 ·have hv:¬2+(ins.length:Int)<=v:=by have h':cV (IntKind.i64.wrap (2+(ins.length:Int))) v=false:=h.out;rw [hw] at h';simp only [cV,decide_eq_false_iff_not] at h';exact h'
  have e:nP ⟨ins,gs,outs,dr⟩ v=false:=by unfold nP;simp [hv]
  cbv
  exact ⟨.bc e.symm⟩
@[reducible] noncomputable def arW:fK where
 α:=LL
 args x:=[.sl 1 bM (λ_=>x.a),.sl 1 bM (λ_=>x.b)]
 pre x:=x.b.length<=1000000/\∀z∈x.b,0<=z/\z < x.a.length
 β:=Int
 post x y:=True
 res x y:=.i .i64 (λ_=>y)
theorem Uw:eG PP 106 arW:=by
 refine iL (iQ 0 0) (fo Tryz.func106) (λa=>⟨(λx=>(cQ x).1),(λx=>(cQ x).1),trivial⟩) (λa y=>trivial) ?_
 rintro ⟨a,b⟩ hx
 obtain ⟨hb,hm⟩:b.length<=1000000/\∀z∈b,0<=z/\z < a.length:=hx
 refine ⟨?_⟩
 cbv
 refine Sat.cf (iQ 0 0) 0 5 [] (λx:Nat × Int=>[(5,.i .i64 λ_=>x.2),(6,.i .i64 λ_=>(x.1:Int))]) (λ_=>[]) (λx=>x.1<=b.length) (λx=>b.length - x.1) (0,0) (by exact ao) (by exact ao) (by simp) ?_
 rintro ⟨i,d⟩ hi
 have hi:i<=b.length:=hi
 have h0:=n0 i
 have h1:=cq (i:=i) (by omega)
 cbv
 refine ⟨λh=>?_,λh=>?_⟩
 ·(have h:=h.out;simp (disch:=exact aT) only [hS] at h)
  have aR:i < b.length:=by exact aT
  have bh:i+1<=b.length/\b.length - (i+1) < b.length - i:=by omega
  obtain ⟨x,hx⟩:=bD aR
  have hxa:=hm x (cb hx)
  obtain ⟨u,hu⟩:=bD (l:=a) (i:=x.toNat) (by exact aT)
  cbv
  refine ⟨x,⟨h0,hx⟩,?_⟩
  cbv
  refine ⟨u,⟨hxa.1,hu⟩,?_⟩
  cbv
  refine ⟨(i+1,max d u),by have bg:=h1;exact bJ,by exact ao,⟨bh⟩⟩
 ·cbv
  exact .mk' d ⟨by exact aK⟩ trivial
structure PT where
 n:Net
 root:List Int
 leaves:List (List Int)
 v:Int
structure aqj (x:PT) (y:Int):Prop where
 lo:x.v < 2+x.n.ins.length->y=x.v
 hi:x.v∈x.root->0<=y/\y < 2+x.n.ins.length+x.root.length
def uf (x:PT):Int:=if x.v < 2+x.n.ins.length then x.v else match x.root.findIdx? (λz=>decide (z=x.v)) with
 | some i=>2+x.n.ins.length+i
 | none=>-1
theorem ape (x:PT) (h:0<=x.v):aqj x (uf x):=by
 refine ⟨λaR=>by unfold uf;rw [if_pos aR],λhm=>?_⟩
 unfold uf
 split
 ·omega
 ·split
  ·rename_i i hi
   have:=(D7.1 hi).1
   omega
  ·rename_i hi
   rw [JQ] at hi
   have:=hi _ hm
   simp at this
@[reducible] noncomputable def WZ:Vc.Spec where
 α:=PT
 args x:=[.agg (sB x.n),.agg [.sl 1 bM (λ_=>x.root),.sl 1 jc (λ_=>x.leaves)],.i .i64 (λ_=>x.v)]
 pre x:=x.n.ins.length<=1000/\x.root.length<=1000000/\0<=x.v
 res x:=.i .i64 (λ_=>uf x)
theorem aeI:cZ (PP ()) 118 WZ:=by
 refine dT (iQ 0 0) (fo Tryz.func118) (λa=>⟨tQ a.n,⟨(λx=>(cQ x).1),(λx=>(pW x).1),trivial⟩,trivial,trivial⟩) (λa=>trivial) ?_
 rintro ⟨⟨ins,gs,outs,dr⟩,root,leaves,v⟩ hx
 obtain ⟨hi,hr,ik⟩:ins.length<=1000/\root.length<=1000000/\0<=v:=hx
 have hw:IntKind.i64.wrap (2+(ins.length:Int))=2+(ins.length:Int):=by rw [cu (by omega) (by omega)]
 refine ⟨?_⟩
 cbv
 refine ⟨λh=>?_,λh=>?_⟩
 ·have hv:v < 2+(ins.length:Int):=by have h':aU v (IntKind.i64.wrap (2+(ins.length:Int)))=true:=h.out;rw [hw] at h';simp only [aU,decide_eq_true_eq] at h';exact h'
  have e:uf ⟨⟨ins,gs,outs,dr⟩,root,leaves,v⟩=v:=by unfold uf;rw [if_pos hv]
  cbv
  exact ⟨.i e.symm⟩
 ·have hv:¬v < 2+(ins.length:Int):=by have h':aU v (IntKind.i64.wrap (2+(ins.length:Int)))=false:=h.out;rw [hw] at h';simp only [aU,decide_eq_false_iff_not] at h';exact h'
  cbv
  refine Sat.cf (iQ 0 0) 2 7 [] (λi:Nat=>[(7,.i .i64 λ_=>(i:Int))]) (λ_=>[]) (λi=>i<=root.length/\∀j,j < i->root[j]?≠some v) (λi=>root.length - i) 0 (by exact ao) (by exact ao) ⟨by simp,λj hj=>by omega⟩ ?_
  rintro i ⟨bt,eA⟩
  have h0:=n0 i
  have h1:=cq (i:=i) (by omega)
  cbv
  refine ⟨λh=>?_,λh=>?_⟩
  ·(have h:=h.out;simp (disch:=exact aT) only [hS] at h)
   have aR:i < root.length:=by exact aT
   have bh:root.length - (i+1) < root.length - i:=by omega
   obtain ⟨x,hx⟩:=bD aR
   have vy:IntKind.i64.wrap (IntKind.i64.wrap (2+(ins.length:Int))+(i:Int))=2+(ins.length:Int)+i:=by rw [hw,cu (by exact aT) (by exact aT)]
   cbv
   refine ⟨x,⟨h0,hx⟩,?_⟩
   cbv
   refine ⟨λh=>?_,λh=>?_⟩
   ·have oR:x=v:=bI
    have e:IntKind.i64.wrap (IntKind.i64.wrap (2+(ins.length:Int))+(i:Int))=uf ⟨⟨ins,gs,outs,dr⟩,root,leaves,v⟩:=by
     rw [vy]
     unfold uf
     rw [if_neg hv]
     have:root.findIdx? (λz=>decide (z=v))=some i:=by
      rw [D7]
      refine ⟨aR,by rw [eo aR] at hx;simp at hx;simp [hx,oR],λj hj=>?_⟩
      have:=eA j hj
      rw [eo (by omega)] at this
      simpa using this
     simp only
     rw [this]
    cbv
    exact ⟨.i e⟩
   ·have cO:x≠v:=bI
    cbv
    exact ⟨i+1,by have bg:=h1;exact bJ,by exact ao,⟨⟨aR,λj hj=>by
     by_cases nO:j=i
     ·subst nO;rw [hx];simpa using cO
     ·exact eA j (by omega)⟩,bh⟩⟩
  ·have b9:i=root.length:=by have h':aU (i:Int) (root.length:Int)=false:=h.out;simp only [aU,decide_eq_false_iff_not] at h';exact aT
   have e:uf ⟨⟨ins,gs,outs,dr⟩,root,leaves,v⟩=-1:=by
    unfold uf
    rw [if_neg hv]
    have:root.findIdx? (λz=>decide (z=v))=none:=by
     rw [JQ]
     intro x hx
     obtain ⟨j,hj⟩:=nX hx
     have er:=(bW.1 hj).1
     have:=eA j (by have:j < root.length:=er;omega)
     rw [hj] at this
     simpa using this
    simp only
    rw [this]
   cbv
   exact ⟨.ic e.symm⟩
end Go.Proofs.Pk
