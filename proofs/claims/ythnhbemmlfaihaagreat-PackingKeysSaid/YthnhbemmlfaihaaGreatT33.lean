import Derived.Test.YthnhbemmlfaihaaGreatT12
import Derived.Test.YthnhbemmlfaihaaGreatT21
import Derived.Test.YthnhbemmlfaihaaGreatT27
import Derived.Test.YthnhbemmlfaihaaGreatT32
set_option linter.unusedVariables false
set_option linter.unusedSimpArgs false
set_option maxRecDepth 10000
set_option maxHeartbeats 64000000
namespace Go.Proofs.Pk
open Go Go.Vc
structure MN where
 n:Net
 m:gL
 is:Bool
structure P5 (y:MN):Prop where
 BM:eU y.n
 yG:y.n.ay.length<=1000
 map:y.is=true->jI y.n y.m
@[reducible] noncomputable def Xs (y:MN):SV:=.agg [.sl 3 dk (λ_=>y.n.ins),.sl 5 dE (λ_=>y.n.gP),.sl 3 dk (λ_=>y.n.outs),.sl 1 bK (λ_=>y.n.ay),.i .i64 (λ_=>y.m.n),.sl 3 rM (λ_=>y.m.cells),.sl 1 bK (λ_=>y.m.ay),.b (λ_=>y.is)]
theorem ad9 (y:MN):LF (Xs y):=⟨(λx=>(gU x).1),(λx=>(eO x).1),(λx=>(gU x).1),(λx=>(cP x).1),trivial,(λx=>(AM x).1),(λx=>(cP x).1),trivial,trivial⟩
structure asy where
 p:rT
 b:List Int
@[reducible] noncomputable def avd:fO where
 α:=asy
 args x:=[.agg (zp 2 x.p),.sl 1 iN (λ_=>x.b)]
 pre x:=rH x.p/\x.b.length<=1000/\∀z∈x.b,0<=z/\z<=255
 β:=MN
 post x y:=P5 y
 res x y:=Xs y
noncomputable def ave (n m:Nat):Ctx:=fy n m [(73,Tryz.f73),(37,Tryz.f37),(42,Tryz.f42)] [] [73,37,42]
theorem aq4 (n m:Nat):CB PP (ave n m):=fF n m ⟨fo Tryz.func73,fo Tryz.func37,fo Tryz.func42,trivial⟩ trivial
theorem aq5:eM PP 15 avd:=by
 refine iQ (aq4 2 2) (fo Tryz.func15) (λa=>⟨Hj 2 a.p,(λx=>(sq x).1),trivial⟩) (λa y=>ad9 y) ?_
 rintro ⟨p,b⟩ hx
 obtain ⟨hp,jL,jq⟩:rH p/\b.length<=1000/\∀z∈b,0<=z/\z<=255:=hx
 refine ⟨?_⟩
 cbv
 refine bV.rel aoA p (by exact aL) ⟨hp⟩ λy hy=>?_
 have hy:eU y.n/\y.n.ay.length<=1000:=hy.out
 obtain ⟨⟨ins,gs,outs,dr⟩,ye⟩:=y
 have hn:eU ⟨ins,gs,outs,dr⟩:=hy.1
 have hd:dr.length<=1000:=hy.2
 have Jb:dr.length<=1000000:=by omega
 clear hy
 cbv
 refine bV.rel aqI ⟨ins,gs,outs,dr⟩ (by exact aL) ⟨hn,Jb⟩ λz hz=>?_
 have hz:z.e=0->jI ⟨ins,gs,outs,dr⟩ z.m:=hz.out
 obtain ⟨⟨mn,mc,md⟩,zr,zl,ze⟩:=z
 have hz:ze=0->jI ⟨ins,gs,outs,dr⟩ ⟨mn,mc,md⟩:=hz
 have last:∀(z:gL) (e:Int),(e=0->jI ⟨ins,gs,outs,dr⟩ z)->P5 ⟨⟨ins,gs,outs,dr⟩,z,aV e 0⟩:=λz e h=>⟨hn,hd,λhe=>h (by simpa [aV] using he)⟩
 have h1:=last ⟨mn,mc,md⟩ ze hz
 cbv
 refine ⟨λh=>?_,λh=>?_⟩
 rotate_left
 ·cbv
  exact .mk' ⟨⟨ins,gs,outs,dr⟩,⟨mn,mc,md⟩,aV ze 0⟩ ⟨by exact aL⟩ h1
 clear h
 cbv
 refine ⟨λh=>?_,λh=>?_⟩
 rotate_left
 ·cbv
  exact .mk' ⟨⟨ins,gs,outs,dr⟩,⟨mn,mc,md⟩,aV ze 0⟩ ⟨by exact aL⟩ h1
 clear h
 cbv
 refine bV.rel aqK ⟨⟨ins,gs,outs,dr⟩,b⟩ (by exact aL) ⟨hn,Jb,jL,jq⟩ λz hz=>?_
 have hz:jI ⟨ins,gs,outs,dr⟩ z.m/\z.e=0:=hz.out
 obtain ⟨⟨an,ac,ad⟩,ar,al,ae⟩:=z
 have hz:jI ⟨ins,gs,outs,dr⟩ ⟨an,ac,ad⟩/\ae=0:=hz
 have h2:=last ⟨an,ac,ad⟩ ae λ_=>hz.1
 cbv
 exact .mk' ⟨⟨ins,gs,outs,dr⟩,⟨an,ac,ad⟩,aV ae 0⟩ ⟨by exact aL⟩ h2
@[reducible] noncomputable def ae2:Vc.Spec:=agb.fun
theorem aoB:cW (PP ()) 12 ae2:=apI.fun (UD Tryz.func12 (by kernel_rfl))
@[reducible] noncomputable def avf:fO where
 α:=List Int
 args b:=[.opt rH (λy=>.agg (zp 2 y)),.sl 1 iN (λ_=>b)]
 pre b:=b.length<=1000/\∀z∈b,0<=z/\z<=255
 β:=MN
 post b y:=P5 y
 res b y:=Xs y
theorem aq6:eM PP 15 avf:=aq5.opt (U:=rT) (λ_ p=>rH p) (λy=>.agg (zp 2 y)) (λb=>[.sl 1 iN (λ_=>b)]) (λb p=>⟨p,b⟩) (λp=>Hj 2 p) (λb=>⟨(λx=>(sq x).1),trivial⟩)
 (λb=>rfl) (λb p=>rfl) (λb p h hp=>⟨hp,h.1,h.2⟩) rfl (λb p y _ _ h=>⟨h,rfl⟩) (λb y=>ad9 y)
end Go.Proofs.Pk
