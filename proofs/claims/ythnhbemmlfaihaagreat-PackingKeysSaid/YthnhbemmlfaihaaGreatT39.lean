import Derived.Test.YthnhbemmlfaihaaGreatT12
import Derived.Test.YthnhbemmlfaihaaGreatT37
import Derived.Test.YthnhbemmlfaihaaGreatT38
set_option linter.unusedVariables false
set_option linter.unusedSimpArgs false
set_option maxRecDepth 10000
set_option maxHeartbeats 64000000
namespace Go.Proofs.Pk
open Go Go.Vc
structure aiK where
 p:bt
 aN:List Int
 z:List Int
structure XP (x:aiK):Prop where
 ky:De x.p
 ins:x.p.ins=[]
 outs:x.p.outs=[]
 XO:x.aN.length<=1000000
 no:∀(b:Nat) (y:Block),x.p.blocks[b]?=some y->0<=y.bh->(zu x.p [] ⟨x.aN,[]⟩)[2*b]?=some false
 z:x.z=List.replicate x.aN.length 0
@[reducible] noncomputable def afk:Vc.Spec where
 α:=aiK
 args x:=[.agg (fB x.p),.agg (Dd ⟨x.aN,[]⟩),.sl 2 Ff (λ_=>[]),.sl 1 jc (λ_=>[])]
 pre x:=XP x
 res x:=.agg (L3 ⟨false,⟨x.z,[]⟩,[],[]⟩)
noncomputable def cS0 (n m:Nat):Ctx:=eF n m [] [(62,Wr),(151,Wp),(95,CM),(63,Ws)] [] [] [17]
theorem Wt (n m:Nat):CB PP (cS0 n m):=eH n m trivial ⟨aek,aej,EP,ael,trivial⟩
noncomputable def cS1 (n m:Nat):Ctx:=eF n m [] [(62,Wr),(151,Wp),(95,CM),(63,Ws)]
theorem asZ (n m:Nat):CB PP (cS1 n m):=eH n m trivial ⟨aek,aej,EP,ael,trivial⟩
theorem aoV:cW (PP ()) 67 afk:=by
 refine dT (Wt 0 0) (fo Tryz.func67) (λa=>⟨kE a.p,Ku _,(λx=>(Ox x).1),(λx=>(tY x).1),trivial⟩) (λa=>O0 _) ?_
 rintro ⟨⟨ins,blocks,outs,ay⟩,aN,Zr⟩ hx
 have hx:XP ⟨⟨ins,blocks,outs,ay⟩,aN,Zr⟩:=hx
 have Zj:Zr=List.replicate aN.length 0:=hx.z
 have dN:ins=[]:=hx.ins
 have BQ:outs=[]:=hx.outs
 subst dN
 subst BQ
 have pL:=hx.ky
 simp only at pL
 have oP:blocks.length<=600:=pL.sh.dK
 have Gd:aN.length<=1000000:=hx.XO
 have eA:∀(b:Nat) (y:Block),blocks[b]?=some y->0<=y.bh->(zu ⟨[],blocks,[],ay⟩ [] ⟨aN,[]⟩)[2*b]?=some false:=hx.no
 have yD:∀x∈blocks,x.bh<=255:=λx h=>(pL.sh.formed x h).bh.2
 clear hx
 have IN:Wo ⟨⟨[],blocks,[],ay⟩,[],⟨aN,[]⟩⟩:=⟨pL,rfl⟩
 obtain ⟨E,hE⟩:∃E,zu ⟨[],blocks,[],ay⟩ [] ⟨aN,[]⟩=E:=⟨_,rfl⟩
 rw [hE] at eA
 refine ⟨?_⟩
 cbv
 refine ⟨⟨⟨aN,[]⟩,[],[]⟩,⟨by exact bQ,trivial⟩,?_⟩
 cbv
 refine ⟨⟨⟨[],blocks,[],ay⟩,[],⟨aN,[]⟩⟩,⟨by exact bQ,IN⟩,?_⟩
 cbv
 refine Sat.CK 12 133 3 Hs gU rfl ?_
 cbv
 refine Sat.CK 13 4 1 UE tY rfl ?_
 cbv
 refine Sat.cd (Wt 0 0) 6 12 [(.t 12,4),(.t 13,5)] (λx:Nat × List bU × List Bool=>[(11,.sl 1 jc (λ_=>E)),(12,.own 4),(13,.own 5),(33,.sl 5 oD (λ_=>blocks)),(34,.i .i64 (λ_=>(blocks.length:Int))),(35,.i .i64 (λ_=>(x.1:Int)))])
  (λx=>[(4,.dyn 133 3 dk (λ_=>x.2.1)),(5,.dyn 4 1 jc (λ_=>x.2.2))]) (λx=>x.1<=blocks.length/\x.2.2.length=x.2.1.length/\x.2.1.length<=x.1/\∀v∈x.2.2,v=false) (λx=>blocks.length - x.1) (0,[],[]) (by have dJ:=hE;exact bI) (by exact ao) ⟨cL _,rfl,cR _,by simp⟩ ?_
 rintro ⟨i,O,V⟩ ⟨hi,Jj,hOl,MW⟩
 have hi:i<=blocks.length:=hi
 have Jj:V.length=O.length:=Jj
 have hOl:O.length<=i:=hOl
 have MW:∀v∈V,v=false:=MW
 have h0:=n0 i
 have h1:=cj (i:=i) (by omega)
 cbv
 refine ⟨λh=>?_,λh=>?_⟩
 ·have bq:i < blocks.length:=bG
  have a7:blocks.length - (i+1) < blocks.length - i:=by omega
  refine (bB bq).elim λx hx=>?_
  have Iz:(i:Int)<=1000000:=by omega
  have YQ:([]:List bU).length<=1000000:=by simp
  have ef:(O.length+1)*24<=140737488355328:=by omega
  have nj:O.length+1<=9223372036854775807:=by omega
  have hsy:(V.length+1)*1<=140737488355328:=by omega
  have avy:V.length+1<=9223372036854775807:=by omega
  have gE:0<=((([]:List bU).length:Nat):Int)+2*(i:Int)/\0<=x.bh->E[((((([]:List bU).length:Nat):Int)+2*(i:Int))).toNat]?=some false:=λh=>by
   have:=eA i x hx h.2
   rw [show ((((([]:List bU).length:Nat):Int)+2*(i:Int))).toNat=2*i by simp;omega]
   exact this
  have aiL:0<=((([]:List bU).length:Nat):Int)+2*(i:Int):=by simp;omega
  obtain ⟨wi,w6⟩:∃w,IntKind.i64.wrap (x.bh.tdiv 8)=w:=⟨_,rfl⟩
  obtain ⟨wb,RH⟩:∃w,x.bh.tmod 8=w:=⟨_,rfl⟩
  have bA:i+1<=blocks.length/\(V++[false]).length=(O++[(⟨1,wi,wb⟩:bU)]).length/\(O++[(⟨1,wi,wb⟩:bU)]).length<=i+1/\∀v∈V++[false],v=false:=⟨bq,by simp [Jj],by simp;omega,λv hv=>by
   rcases List.mem_append.1 hv with h|h
   ·exact MW v h
   ·simpa using h⟩
  have hold:i+1<=blocks.length/\V.length=O.length/\O.length<=i+1/\∀v∈V,v=false:=⟨bq,Jj,by omega,MW⟩
  cbv
  refine ⟨x,⟨h0,hx⟩,?_⟩
  cbv
  refine ⟨λh=>?_,λh=>?_⟩
  ·have hr:0<=x.bh:=bG
   have hE2:=gE ⟨aiL,hr⟩
   cbv
   refine ⟨⟨by decide⟩,⟨by decide⟩,?_⟩
   cbv
   refine ⟨[⟨1,wi,wb⟩],⟨by exact bQ,ef,nj⟩,?_⟩
   cbv
   refine ⟨⟨⟨[],blocks,[],ay⟩,(i:Int)⟩,⟨by exact bQ,YQ,h0,Iz⟩,?_⟩
   cbv
   refine ⟨false,⟨aiL,hE2⟩,?_⟩
   cbv
   refine ⟨[false],⟨by exact bQ,hsy,avy⟩,?_⟩
   cbv
   exact ⟨(i+1,O++[⟨1,wi,wb⟩],V++[false]),by exact ao,by exact ao,⟨⟨bA,a7⟩⟩⟩
  ·cbv
   exact ⟨(i+1,O,V),by exact ao,by exact ao,⟨⟨hold,a7⟩⟩⟩
 have hef:∀dr,XN ⟨O,dr,aN,V,Zr⟩:=λdr=>⟨by show O.length<=1000000;omega,Gd,Jj,MW,Zj⟩
 obtain ⟨DZ,hDZ⟩:∃D,List.replicate ((O.length:Int)).toNat (0:Int)=D:=⟨_,rfl⟩
 have eI:0<=(O.length:Int)/\8*(O.length:Int)<=281474976710656/\(O.length:Int)<=9223372036854775807:=by omega
 clear h h0 h1
 cbv
 refine Sat.Hr (Wt 0 0) 0 ?_
 cbv
 refine ⟨λh=>?_,λh=>?_⟩
 ·have hF:False:=by have h:=h.out;simp [aS] at h
  cases hF
 clear h
 cbv
 refine ⟨⟨eI.1,jR _,eI.2.1,eI.2.2⟩,?_⟩
 cbv
 refine Sat.freeze 4 rfl rfl ?_
 cbv
 refine Sat.freeze 5 rfl rfl ?_
 cbv
 refine Sat.freeze 6 rfl rfl ?_
 refine Sat.uH (asZ 0 0) ?_
 cbv
 refine ⟨⟨O,DZ,aN,V,Zr⟩,⟨by have dJ:=hDZ;exact cQ,hef DZ⟩,?_⟩
 cbv
 exact ⟨by exact aL⟩
def xo (l:List bU):List Int->Option Unit:=λj=>if j∈l.map gC then some () else none
theorem aoW {l:List bU} (h:l.Nodup):(l.map gC).Nodup/\∀n,n∈l.map gC↔(xo l n).isSome=true:=by
 refine ⟨?_,λn=>?_⟩
 ·rw [JZ,yW]
  exact (JZ.1 h).imp λcT e=>cT (aom e)
 ·unfold xo
  split<;>simp_all
theorem aoX {l:List bU} {i:Nat} {x:bU} (h:l[i]?=some x):(λj=>if j=gC x then some () else xo (l.take i) j)=xo (l.take (i+1)):=by
 funext j
 unfold xo
 rw [ER h,N8,lY,List.map_nil]
 by_cases e:j=gC x
 ·simp [e]
 ·simp [e]
theorem am9 {l m:List (List Int)} (hn:l.Nodup) (hs:∀x∈l,x∈m):l.length<=m.length:=by
 induction l generalizing m with
 | nil=>simp
 | cons a r ih =>
  have ot:=rB.1 hn
  have ha:=hs a (by simp)
  have h1:=ih (m:=m.erase a) ot.2 λx hx=>by
   have cT:x≠a:=by rintro rfl;exact ot.1 hx
   exact (List.mem_erase_of_ne cT).2 (hs x (by simp [hx]))
  rw [List.length_erase_of_mem ha] at h1
  have h2:0 < m.length:=List.length_pos_of_mem ha
  simp only [AG]
  omega
theorem adb {l:List bU} {n:List Int} {t:Unit} (h:xo l n=some t):∃x∈l,n=gC x:=by
 unfold xo at h
 split at h
 ·rename_i hm
  obtain ⟨x,hx,e⟩:=kf.1 hm
  exact ⟨x,hx,e.symm⟩
 ·cases h
theorem afl {l:List bU} {x:bU} (h:x∈l):xo l (gC x)=some ():=by
 unfold xo;rw [if_pos (GU h)]
structure Seen (l:List bU) (s:List (List Int)):Prop where
 sub:∀k∈s,k∈l.map gC
 nd:s.Nodup
theorem Seen.more {l:List bU} {s:List (List Int)} (h:Seen l s) {x:bU} (hx:x∈l) (hn:gC x∉s):Seen l (s++[gC x])/\l.length - (s++[gC x]).length < l.length - s.length:=by
 have h1:Seen l (s++[gC x]):=⟨λk hk=>by
  rcases List.mem_append.1 hk with hk|hk
  ·exact h.sub k hk
  ·rw [Ch.1 hk];exact GU hx,Ek.2 ⟨h.nd,by simp,λa ha b hb e=>by simp at hb;subst hb;subst e;exact hn ha⟩⟩
 have h2:=am9 h1.nd h1.sub
 rw [gk,ph,nZ] at h2
 exact ⟨h1,by rw [gk,nZ];omega⟩
theorem aiM:∃f:List bU->List Int->Option Unit,f=xo:=⟨_,rfl⟩
noncomputable def pM:List bU->List Int->Option Unit:=Classical.choose aiM
theorem E5:pM=xo:=xF aiM
theorem ade {l:List bU} {i:Nat} {x:bU} (h:l[i]?=some x):(λj=>if j=gC x then some () else pM (l.take i) j)=pM (l.take (i+1)):=by rw [E5];exact aoX h
theorem aem:(λ_=>none)=pM []:=by rw [E5];funext j;simp [xo]
theorem adf {l:List bU} (h:l.Nodup):(l.map gC).Nodup/\∀n,n∈l.map gC↔(pM l n).isSome=true:=by rw [E5];exact aoW h
structure ux where
 n:Net
 m:gL
structure XQ (y:ux):Prop where
 BM:eU y.n
 outs:y.n.outs.length<=100000
 ay:y.m.ay.length<=100000
@[reducible] noncomputable def TV:Vc.Spec where
 α:=ux
 args y:=[.agg [.sl 3 dk (λ_=>y.n.ins),.sl 5 dE (λ_=>y.n.gP),.sl 3 dk (λ_=>y.n.outs),.sl 1 bK (λ_=>y.n.ay)],.agg [.i .i64 (λ_=>y.m.n),.sl 3 rM (λ_=>y.m.cells),.sl 1 bK (λ_=>y.m.ay)]]
 pre y:=XQ y
 res y:=.b (λ_=>aV (y.n.ins.length:Int) y.m.n&&aV (y.n.outs.length:Int) (y.m.ay.length:Int))
def Df:Unit->List SV:=λ_=>[.bc true]
noncomputable def cPb (n m:Nat):Ctx:=eF n m [] [] [] [] [12]
theorem Wu (n m:Nat):CB PP (cPb n m):=eH n m trivial trivial
noncomputable def avz (n m:Nat):Ctx:=eF n m [] []
theorem Vz (n m:Nat):CB PP (avz n m):=eH n m trivial trivial
theorem amE:cW (PP ()) 164 TV:=by
 refine dT (Wu 0 0) (fo Tryz.func164) (λa=>⟨⟨(λx=>(gU x).1),(λx=>(eO x).1),(λx=>(gU x).1),(λx=>(cP x).1),trivial⟩,⟨trivial,(λx=>(AM x).1),(λx=>(cP x).1),trivial⟩,trivial⟩) (λa=>trivial) ?_
 rintro ⟨⟨ins,gs,outs,dr⟩,⟨mn,mc,md⟩⟩ hx
 have hx:XQ ⟨⟨ins,gs,outs,dr⟩,⟨mn,mc,md⟩⟩:=hx
 have j2:=hx.BM
 have wK:2+ins.length+gs.length<=600:=j2.pI
 have MP:outs.length<=100000:=hx.outs
 have Jb:md.length<=100000:=hx.ay
 obtain ⟨R,hR⟩:∃R,(aV (ins.length:Int) mn&&aV (outs.length:Int) (md.length:Int))=R:=⟨_,rfl⟩
 have kp:TV.res ⟨⟨ins,gs,outs,dr⟩,⟨mn,mc,md⟩⟩=.b (λ_=>R):=by rw [<-hR]
 rw [kp]
 have avA:aV ((ins.map gC).length:Int) (ins.length:Int)=true:=by rw [ph];simp [aV]
 have avB:aV ((outs.map gC).length:Int) (outs.length:Int)=true:=by rw [ph];simp [aV]
 refine ⟨?_⟩
 cbv
 have iT:(λ_=>none)=pM (ins.take 0):=aem
 have iJ:(λ_=>none)=pM (outs.take 0):=aem
 refine Sat.cd (Wu 0 0) 4 7 [] (λi:Nat=>[(16,.sl 3 dk (λ_=>ins)),(17,.i .i64 (λ_=>(ins.length:Int))),(18,.i .i64 (λ_=>(i:Int)))]) (λi=>[(2,.map kW Df (λ_=>pM (ins.take i)))]) (λi=>i<=ins.length) (λi=>ins.length - i) 0 (by exact ao) (by have im:=iT;exact bI) (cL _) ?_
 intro i hi
 have hi:i<=ins.length:=hi
 have h0:=n0 i
 have h1:=cj (i:=i) (by omega)
 cbv
 refine ⟨λh=>?_,λh=>?_⟩
 ·have bq:i < ins.length:=bG
  have a7:ins.length - (i+1) < ins.length - i:=by omega
  refine (bB bq).elim λx qs=>?_
  have cI:=ade qs
  cbv
  refine ⟨x,⟨h0,qs⟩,?_⟩
  cbv
  refine ⟨(),⟨by exact bQ⟩,?_⟩
  cbv
  exact ⟨i+1,by exact ao,by have im:=cI;exact bI,⟨⟨bq,a7⟩⟩⟩
 have bS:i=ins.length:=by
  have h':aS i ins.length=false:=h.out
  have h2:¬(i:Int) < ins.length:=by simpa [aS] using h'
  omega
 have dN:pM (ins.take i)=pM ins:=by rw [bS,kC]
 clear h h0 h1
 cbv
 refine Sat.cd (Wu 0 0) 4 7 [] (λj:Nat=>[(26,.sl 3 dk (λ_=>outs)),(27,.i .i64 (λ_=>(outs.length:Int))),(28,.i .i64 (λ_=>(j:Int)))]) (λj=>[(2,.map kW Df (λ_=>pM ins)),(3,.map kW Df (λ_=>pM (outs.take j)))]) (λj=>j<=outs.length) (λj=>outs.length - j) 0 (by exact ao) (by have im:=dN;have zV:=iJ;exact bI) (cL _) ?_
 intro j hj
 have hj:j<=outs.length:=hj
 have h0:=n0 j
 have h1:=cj (i:=j) (by omega)
 cbv
 refine ⟨λh=>?_,λh=>?_⟩
 ·have bq:j < outs.length:=bG
  have a7:outs.length - (j+1) < outs.length - j:=by omega
  refine (bB bq).elim λx qs=>?_
  have cI:=ade qs
  cbv
  refine ⟨x,⟨h0,qs⟩,?_⟩
  cbv
  refine ⟨(),⟨by exact bQ⟩,?_⟩
  cbv
  exact ⟨j+1,by exact ao,by have im:=cI;exact bI,⟨⟨bq,a7⟩⟩⟩
 have uv:j=outs.length:=by
  have h':aS j outs.length=false:=h.out
  have h2:¬(j:Int) < outs.length:=by simpa [aS] using h'
  omega
 have bW:pM (outs.take j)=pM outs:=by rw [uv,kC]
 clear h h0 h1
 cbv
 refine Sat.freeze 2 rfl rfl ?_
 refine Sat.freeze 3 rfl rfl ?_
 refine Sat.uH (Vz 0 0) ?_
 cbv
 refine Sat.cd (Vz 0 0) 5 5 [] (λl:List (List Int)=>[(5,.mp kW Df (λ_=>pM ins)),(6,.mp kW Df (λ_=>pM outs)),(36,.ptr 4 0)]) (λl=>[(4,.iter kW Df (λ_=>pM ins) (λ_=>l) none)]) (λl=>Seen ins l) (λl=>ins.length - l.length) [] (by have YC:=bW;have dP:=bW;exact bI) (by exact ao) ⟨by simp,Ep⟩ ?_
 intro l hl
 have hl:Seen ins l:=hl
 cbv
 refine ⟨λh=>?_,λn t h=>?_⟩
 rotate_left
 ·obtain ⟨g1,g2⟩:=h.out
  rw [E5] at g1
  obtain ⟨x,gy,oo⟩:=adb g1
  clear g1
  subst oo
  have rh:=j2.ins x gy
  have jo:x.kind=1->pM outs (gC x)=some ():=λh=>by rw [E5];exact afl ((j2.aN x h).1 gy)
  obtain ⟨km,ju⟩:=hl.more gy g2
  have avC:¬31 < x.i:=by have:=rh.2;omega
  clear g2 rh
  cbv
  refine ⟨λh=>?_,λh=>?_⟩
  ·have hk:x.kind=1:=bG
   cbv
   refine ⟨some (some ()),⟨jo hk⟩,?_⟩
   cbv
   refine ⟨λh=>?_,λh=>?_⟩
   ·have hF:False:=by
     have h':aS 31 x.i=true:=h.out
     simp only [aS,decide_eq_true_eq] at h';omega
    cases hF
   ·cbv
    exact ⟨l++[gC x],by exact ao,by exact bI,⟨⟨km,ju⟩⟩⟩
  ·cbv
   exact ⟨l++[gC x],by exact ao,by exact bI,⟨⟨km,ju⟩⟩⟩
 clear h hl
 cbv
 refine Sat.cd (Vz 0 0) 6 7 [] (λl:List (List Int)=>[(56,.ptr 5 0)]) (λl=>[(5,.iter kW Df (λ_=>pM outs) (λ_=>l) none)]) (λl=>Seen outs l) (λl=>outs.length - l.length) [] (by exact ao) (by exact ao) ⟨by simp,Ep⟩ ?_
 intro l hl
 have hl:Seen outs l:=hl
 cbv
 refine ⟨λh=>?_,λn t h=>?_⟩
 rotate_left
 ·obtain ⟨g1,g2⟩:=h.out
  rw [E5] at g1
  obtain ⟨x,gy,oo⟩:=adb g1
  clear g1
  subst oo
  have jo:x.kind=1->pM ins (gC x)=some ():=λh=>by rw [E5];exact afl ((j2.aN x h).2 gy)
  obtain ⟨km,ju⟩:=hl.more gy g2
  clear g2
  cbv
  refine ⟨λh=>?_,λh=>?_⟩
  ·have hk:x.kind=1:=bG
   cbv
   refine ⟨some (some ()),⟨jo hk⟩,?_⟩
   cbv
   exact ⟨l++[gC x],by exact ao,by exact bI,⟨⟨km,ju⟩⟩⟩
  ·cbv
   exact ⟨l++[gC x],by exact ao,by exact bI,⟨⟨km,ju⟩⟩⟩
 clear h hl
 cbv
 refine ⟨λh=>?_,λh=>?_⟩
 rotate_left
 ·have e:false=R:=by rw [<-hR,show aV (ins.length:Int) mn=false from h.out];rfl
  cbv
  exact ⟨by exact aL⟩
 have hA:aV (ins.length:Int) mn=true:=h.out
 rw [hA,JR] at hR
 clear h
 cbv
 refine ⟨λh=>?_,λh=>?_⟩
 rotate_left
 ·have e:false=R:=by rw [<-hR];exact h.out.symm
  cbv
  exact ⟨by exact aL⟩
 have hB:aV (outs.length:Int) (md.length:Int)=true:=h.out
 have e:true=R:=by rw [<-hR,hB]
 clear h
 cbv
 refine ⟨ins.map gC,⟨adf j2.ind⟩,?_⟩
 cbv
 refine ⟨λh=>?_,λh=>?_⟩
 rotate_left
 ·have hF:False:=by have h':aV ((ins.map gC).length:Int) (ins.length:Int)=false:=h.out;rw [avA] at h';cases h'
  cases hF
 clear h
 cbv
 refine ⟨outs.map gC,⟨adf j2.Lu⟩,?_⟩
 cbv
 have e2:aV ((outs.map gC).length:Int) (outs.length:Int)=R:=by rw [avB];exact e
 exact ⟨by exact aL⟩
end Go.Proofs.Pk
