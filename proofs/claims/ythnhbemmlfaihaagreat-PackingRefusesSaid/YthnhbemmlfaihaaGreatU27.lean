import Derived.Test.YthnhbemmlfaihaaGreatU7
import Derived.Test.YthnhbemmlfaihaaGreatU16
import Derived.Test.YthnhbemmlfaihaaGreatU21
import Derived.Test.YthnhbemmlfaihaaGreatU26
set_option linter.unusedVariables false
set_option linter.unusedSimpArgs false
set_option maxRecDepth 10000
set_option maxHeartbeats 64000000
namespace Go.Proofs.Pk
open Go Go.Vc
structure MB where
 n:Net
 m:gD
 is:Bool
structure P7 (y:MB):Prop where
 Bv:eX y.n
 zN:y.n.ay.length<=1000
 map:y.is=true->jG y.n y.m
@[reducible] noncomputable def Xp (y:MB):SV:=.agg [.sl 3 dm (λ_=>y.n.ins),.sl 5 dD (λ_=>y.n.gM),.sl 3 dm (λ_=>y.n.outs),.sl 1 bM (λ_=>y.n.ay),.i .i64 (λ_=>y.m.n),.sl 3 rL (λ_=>y.m.cells),.sl 1 bM (λ_=>y.m.ay),.b (λ_=>y.is)]
theorem adV (y:MB):LF (Xp y):=⟨(λx=>(gS x).1),(λx=>(eO x).1),(λx=>(gS x).1),(λx=>(cQ x).1),trivial,(λx=>(Aw x).1),(λx=>(cQ x).1),trivial,trivial⟩
structure ash where
 p:rR
 b:List Int
@[reducible] noncomputable def auU:fK where
 α:=ash
 args x:=[.agg (za 2 x.p),.sl 1 jq (λ_=>x.b)]
 pre x:=rG x.p/\x.b.length<=1000/\∀z∈x.b,0<=z/\z<=255
 β:=MB
 post x y:=P7 y
 res x y:=Xp y
noncomputable def auV (n m:Nat):Ctx:=fB n m [(73,Tryz.f73),(37,Tryz.f37),(42,Tryz.f42)] [] [73,37,42]
theorem aqK (n m:Nat):CB PP (auV n m):=fG n m ⟨fo Tryz.func73,fo Tryz.func37,fo Tryz.func42,trivial⟩ trivial
theorem aqL:eG PP 15 auU:=by
 refine iL (aqK 2 2) (fo Tryz.func15) (λa=>⟨G4 2 a.p,(λx=>(tU x).1),trivial⟩) (λa y=>adV y) ?_
 rintro ⟨p,b⟩ hx
 obtain ⟨hp,jx,jr⟩:rG p/\b.length<=1000/\∀z∈b,0<=z/\z<=255:=hx
 refine ⟨?_⟩
 cbv
 refine bV.rel aoj p (by exact aK) ⟨hp⟩ λy hy=>?_
 have hy:eX y.n/\y.n.ay.length<=1000:=hy.out
 obtain ⟨⟨ins,gs,outs,dr⟩,ye⟩:=y
 have hn:eX ⟨ins,gs,outs,dr⟩:=hy.1
 have hd:dr.length<=1000:=hy.2
 have F4:dr.length<=1000000:=by omega
 clear hy
 cbv
 refine bV.rel aqo ⟨ins,gs,outs,dr⟩ (by exact aK) ⟨hn,F4⟩ λz hz=>?_
 have hz:z.e=0->jG ⟨ins,gs,outs,dr⟩ z.m:=hz.out
 obtain ⟨⟨mn,mc,md⟩,zr,zl,ze⟩:=z
 have hz:ze=0->jG ⟨ins,gs,outs,dr⟩ ⟨mn,mc,md⟩:=hz
 have last:∀(z:gD) (e:Int),(e=0->jG ⟨ins,gs,outs,dr⟩ z)->P7 ⟨⟨ins,gs,outs,dr⟩,z,aV e 0⟩:=λz e h=>⟨hn,hd,λhe=>h (by simpa [aV] using he)⟩
 have h1:=last ⟨mn,mc,md⟩ ze hz
 cbv
 refine ⟨λh=>?_,λh=>?_⟩
 rotate_left
 ·cbv
  exact .mk' ⟨⟨ins,gs,outs,dr⟩,⟨mn,mc,md⟩,aV ze 0⟩ ⟨by exact aK⟩ h1
 clear h
 cbv
 refine ⟨λh=>?_,λh=>?_⟩
 rotate_left
 ·cbv
  exact .mk' ⟨⟨ins,gs,outs,dr⟩,⟨mn,mc,md⟩,aV ze 0⟩ ⟨by exact aK⟩ h1
 clear h
 cbv
 refine bV.rel aqq ⟨⟨ins,gs,outs,dr⟩,b⟩ (by exact aK) ⟨hn,F4,jx,jr⟩ λz hz=>?_
 have hz:jG ⟨ins,gs,outs,dr⟩ z.m/\z.e=0:=hz.out
 obtain ⟨⟨an,ac,ad⟩,ar,al,ae⟩:=z
 have hz:jG ⟨ins,gs,outs,dr⟩ ⟨an,ac,ad⟩/\ae=0:=hz
 have h2:=last ⟨an,ac,ad⟩ ae λ_=>hz.1
 cbv
 exact .mk' ⟨⟨ins,gs,outs,dr⟩,⟨an,ac,ad⟩,aV ae 0⟩ ⟨by exact aK⟩ h2
@[reducible] noncomputable def Vg:Vc.Spec:=af2.fun
theorem acJ:cZ (PP ()) 12 Vg:=apn.fun (Ut Tryz.func12 (by kernel_rfl))
@[reducible] noncomputable def auW:fK where
 α:=List Int
 args b:=[.opt rG (λy=>.agg (za 2 y)),.sl 1 jq (λ_=>b)]
 pre b:=b.length<=1000/\∀z∈b,0<=z/\z<=255
 β:=MB
 post b y:=P7 y
 res b y:=Xp y
theorem aqM:eG PP 15 auW:=aqL.opt (U:=rR) (λ_ p=>rG p) (λy=>.agg (za 2 y)) (λb=>[.sl 1 jq (λ_=>b)]) (λb p=>⟨p,b⟩) (λp=>G4 2 p) (λb=>⟨(λx=>(tU x).1),trivial⟩)
 (λb=>rfl) (λb p=>rfl) (λb p h hp=>⟨hp,h.1,h.2⟩) rfl (λb p y _ _ h=>⟨h,rfl⟩) (λb y=>adV y)
end Go.Proofs.Pk
