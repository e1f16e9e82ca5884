import Derived.Test.YthnhbemmlfaihaaGreatA13
import Derived.Test.YthnhbemmlfaihaaGreatA30
set_option linter.unusedVariables false
set_option linter.unusedSimpArgs false
set_option maxRecDepth 10000
set_option maxHeartbeats 64000000
namespace Go.Proofs.Pk
open Go Go.Vc
structure ahR where
 n:Net
 d:Int
structure NI (n:Net) (d:Int):Prop where
 G:cC n.ins.length n.cq
 dr:∀d∈n.bA,0<=d/\d < 2+(n.ins.length:Int)+n.cq.length
 gY:n.bA.length<=1000000
 eq:qN (zH n.ins.length n.cq n.bA)=d
@[reducible] noncomputable def X7:Vc.Spec where
 α:=ahR
 args x:=[.agg (oj x.n)]
 pre x:=NI x.n x.d
 res x:=.i .i64 (λ_=>x.d)
structure Qb (op a b c:Int) (D:List Int) (k:Int) (m:Int) (r:List Int) (g:Int):Prop where
 kb:0<=k/\k<=3
 get:([a,b,c].take k.toNat)=m :: r
 mx:0<=oO (fX D) m r/\D[(oO (fX D) m r).toNat]?=some g
 pre:r.length<=1000000/\∀y∈m :: r,0<=y/\y.toNat < D.length
 look:(if op=7 then some 3 else if op=6 then some 3 else if op=5 then some 3 else if op=4 then some 2 else if op=3 then some 2 else if op=2 then some 2 else if op=1 then some 1 else none)=some k
theorem opF {op a b c n:Int} {D:List Int} (ho:1<=op/\op<=7) (h:jZ D (cH ⟨op,a,b,c,n⟩)) (hD:∀y∈D,0<=y):∃k m r g,Qb op a b c D k m r g/\g=bW D (cH ⟨op,a,b,c,n⟩):=by
 have main:∀(k:Nat) (m:Int) (r:List Int),k<=3->cH ⟨op,a,b,c,n⟩=m :: r->([a,b,c].take k)=m :: r->(if op=7 then some (3:Int) else if op=6 then some 3 else if op=5 then some 3 else if op=4 then some 2 else if op=3 then some 2 else if op=2 then some 2 else if op=1 then some 1 else none)=some (k:Int)->∃k m r g,Qb op a b c D k m r g/\g=bW D (cH ⟨op,a,b,c,n⟩):=λk m r hk h1 h2 h3=>by
  have hp:∀y∈m :: r,0<=y/\y.toNat < D.length:=λy hy=>by
   have:=h.mem y (by rw [h1];exact hy)
   omega
  have hm:=hp _ (My (f:=fX D) (r:=r) (m:=m))
  obtain ⟨g,hg⟩:=cg hm.2
  have hl:r.length<=1000000:=by
   have h4:=congrArg List.length h2
   rw [lq,mY] at h4
   simp at h4
   omega
  refine ⟨k,m,r,g,⟨by omega,by rw [iS];exact h2,⟨hm.1,hg⟩,⟨hl,hp⟩,h3⟩,?_⟩
  rw [h1,<-ab2 hD]
  unfold fX
  rw [List.getD_eq_getElem?_getD,hg];rfl
 have:op=1\/op=2\/op=3\/op=4\/op=5\/op=6\/op=7:=by omega
 rcases this with e|e|e|e|e|e|e<;>subst e
 ·exact main 1 a [] (by omega) rfl rfl rfl
 ·exact main 2 a [b] (by omega) rfl rfl rfl
 ·exact main 2 a [b] (by omega) rfl rfl rfl
 ·exact main 2 a [b] (by omega) rfl rfl rfl
 ·exact main 3 a [b,c] (by omega) rfl rfl rfl
 ·exact main 3 a [b,c] (by omega) rfl rfl rfl
 ·exact main 3 a [b,c] (by omega) rfl rfl rfl
noncomputable def aj7 (n m:Nat):Ctx:=cW n m [(127,Tryz.f127)] [(128,W0)]
theorem Nf (n m:Nat):CB PP (aj7 n m):=cZ n m ⟨fo Tryz.func127,trivial⟩ ⟨afg,trivial⟩
theorem agx:cY (PP ()) 56 X7:=by
 refine e6 (Nf 0 0) (fo Tryz.func56) (λa=>⟨rQ a.n,trivial⟩) (λa=>trivial) ?_
 rintro ⟨⟨ins,gs,outs,dr⟩,d⟩ hx
 obtain ⟨G,sI,Qc,heq⟩:NI ⟨ins,gs,outs,dr⟩ d:=hx
 have G:cC ins.length gs:=G
 have sI:∀d∈dr,0<=d/\d < 2+(ins.length:Int)+gs.length:=sI
 have Qc:dr.length<=1000000:=Qc
 have heq:qN (zH ins.length gs dr)=d:=heq
 have hb:=G.mK
 have hv:=ae3 G sI
 refine (XO hv (λx hx=>by
  obtain ⟨g,_,rfl⟩:=jw.1 hx
  have:=(vI g).2
  show (cH g).length<=_
  omega) Qc).elim λD hF=>?_
 refine hF.elim λW hF=>?_
 have wF:=hF.w0
 have hW:2+(ins.length:Int)=W:=hF.w
 have nt:IntKind.i64.wrap (2+(ins.length:Int))=W:=by rw [hW];exact dV (by omega) (by omega)
 have qj:IntKind.i64.wrap (IntKind.i64.wrap (2+(ins.length:Int))+(gs.length:Int))=W+gs.length:=by rw [nt];exact dV (by omega) (by omega)
 have oU:0<=IntKind.i64.wrap (2+(ins.length:Int))/\IntKind.i64.wrap (2+(ins.length:Int))<=IntKind.i64.wrap (IntKind.i64.wrap (2+(ins.length:Int))+(gs.length:Int))/\((8:Nat):Int)*IntKind.i64.wrap (IntKind.i64.wrap (2+(ins.length:Int))+(gs.length:Int))<=281474976710656/\IntKind.i64.wrap (IntKind.i64.wrap (2+(ins.length:Int))+(gs.length:Int))<=9223372036854775807:=by rw [qj,nt];omega
 have hz:List.replicate (IntKind.i64.wrap (2+(ins.length:Int))).toNat 0=D 0:=by rw [nt];exact hF.z
 have CD:(gs.map jU).length=gs.length:=jQ ..
 have e8:∀(i:Nat) (o a b c n:Int),gs[i]?=some ⟨o,a,b,c,n⟩->(D i).length<=600/\∃k m r g,Qb o a b c (D i) k m r g/\D i++[1+g]=D (i+1)/\IntKind.i64.wrap (1+g)=1+g:=λi o a b c n hg=>by
  have bO:=(bf.1 hg).1
  obtain ⟨h1,h2,h3⟩:=hF.grow i (jU ⟨o,a,b,c,n⟩) (by show (gs.map jU)[i]?=_;rw [kB,hg];rfl)
  obtain ⟨k,m,r,g,hO,nv⟩:=opF (G.cq i _ hg).op h2 λy hy=>(h2.gK y hy).1
  have aj8:g=bW (D i) (jU ⟨o,a,b,c,n⟩).ins:=nv
  rw [<-aj8] at h1 h3
  exact ⟨hF.len i (by show i<=(gs.map jU).length;omega),k,m,r,g,hO,h1,h3⟩
 have jG:∀i,i<=gs.length->gs.length<=i->jZ (D i) dr/\bW (D i) dr=d:=λi h1 h2=>by
  have:=hF.fin i (by show i<=(gs.map jU).length;omega) (by show (gs.map jU).length<=i;omega)
  exact ⟨this.1,this.2.trans heq⟩
 clear hF hv
 refine ⟨?_⟩
 cbv
 refine ⟨⟨oU⟩,?_⟩
 refine Sat.dP (Nf 0 0) 3 4 [(.c 2 0,1)] (λi:Nat=>[(26,.sl 5 lY (λ_=>gs)),(27,.i .i64 (λ_=>(gs.length:Int))),(28,.i .i64 (λ_=>(i:Int)))]) (λi=>[(1,.dyn 3 1 bJ (λ_=>D i)),(2,.fix 35 [.own 1])]) (λi=>i<=gs.length) (λi=>gs.length - i) 0 (by exact aW) (by have eH:=hz;exact bq) (cI _) ?_
 intro i hi
 have hi:i<=gs.length:=hi
 have dv:=n0 i
 have eW:=eh (i:=i) (by omega)
 have jG:=jG i hi
 cbv
 refine ⟨λh=>?_,λh=>?_⟩
 ·have bO:i < gs.length:=aG
  have cf:gs.length - (i+1) < gs.length - i:=by omega
  refine (cg bO).elim λx=>?_
  refine x.casesOn λo a b c n hx=>?_
  have h3:=e8 i o a b c n hx
  have l9:=h3.1
  have b1:((D i).length+1)*8<=140737488355328:=by omega
  have b2:(D i).length+1<=9223372036854775807:=by omega
  refine h3.2.elim λk h3=>?_
  refine h3.elim λm h3=>?_
  refine h3.elim λr h3=>?_
  refine h3.elim λg h3=>?_
  have hO:=h3.1
  have hnw:=h3.2.1
  have OJ:=h3.2.2
  refine (⟨_,rfl⟩:∃q,1+g=q).elim λq hq=>?_
  have OJ:=OJ.trans hq
  rw [hq] at hnw
  clear h h3 e8
  cbv
  refine ⟨⟨o,a,b,c,n⟩,⟨dv,hx⟩,?_⟩
  cbv
  refine ⟨1,⟨by exact e9⟩,?_⟩
  cbv
  refine ⟨2,⟨by exact e9⟩,?_⟩
  cbv
  refine ⟨2,⟨by exact e9⟩,?_⟩
  cbv
  refine ⟨2,⟨by exact e9⟩,?_⟩
  cbv
  refine ⟨3,⟨by exact e9⟩,?_⟩
  cbv
  refine ⟨3,⟨by exact e9⟩,?_⟩
  cbv
  refine ⟨3,⟨by exact e9⟩,?_⟩
  cbv
  refine ⟨some (some k),⟨hO.look⟩,?_⟩
  cbv
  refine ⟨[a,b,c],⟨rfl,by exact e9,kS 0,hO.kb.1,hO.kb.2⟩,?_⟩
  cbv
  refine ⟨[a,b,c],⟨rfl,by exact e9,hO.kb.1,hO.kb.2,kS 3⟩,?_⟩
  cbv
  refine ⟨⟨m,r,D i⟩,⟨.inl ⟨by have iJ:=hO.get;exact bM,rfl⟩,hO.pre⟩,?_⟩
  cbv
  refine ⟨⟨hO.mx.1,(bf.1 hO.mx.2).1⟩,?_⟩
  cbv
  refine ⟨g,⟨hO.mx.2,rfl⟩,?_⟩
  cbv
  refine ⟨[q],⟨by have bK:=OJ;exact bM,b1,b2⟩,?_⟩
  cbv
  exact ⟨i+1,by have bK:=eW;exact bq,by have eH:=hnw;exact bq,⟨⟨bO,cf⟩⟩⟩
 have bV:gs.length<=i:=aG
 have jG:=jG bV
 have e8:=jG.1
 have hg2:=jG.2
 have l9:=e8.len
 have FX:bW (D i) (dr.take 0)=0:=rfl
 clear h
 cbv
 refine Sat.dP (Nf 0 0) 3 4 [] (λj:Nat=>[(9,.i .i64 (λ_=>bW (D i) (dr.take j))),(50,.sl 1 bJ (λ_=>dr)),(51,.i .i64 (λ_=>(dr.length:Int))),(52,.i .i64 (λ_=>(j:Int)))]) (λ_=>[]) (λj=>j<=dr.length) (λj=>dr.length - j) 0 (by have fW:=FX.symm;exact bq) (by exact aW) (cI _) ?_
 intro j hj
 have hj:j<=dr.length:=hj
 have jg:=n0 j
 have lg:=eh (i:=j) (by omega)
 cbv
 refine ⟨λh=>?_,λh=>?_⟩
 ·have ei:j < dr.length:=aG
  have cf:dr.length - (j+1) < dr.length - j:=by omega
  refine (cg ei).elim λv hv=>?_
  have hb:=e8.mem v (cM hv)
  refine (cg (l:=D i) (i:=v.toNat) (by omega)).elim λx j4=>?_
  have cP:=KV hv j4
  have jH:=hb.1
  have iy:=(bf.1 j4).1
  clear h
  cbv
  refine ⟨v,⟨jg,hv⟩,?_⟩
  cbv
  refine ⟨⟨jH,iy⟩,?_⟩
  cbv
  refine ⟨x,⟨j4,rfl⟩,?_⟩
  cbv
  exact ⟨j+1,by have bK:=cP;have js:=lg;exact bq,by exact aW,⟨⟨ei,cf⟩⟩⟩
 ·have bV:dr.length<=j:=aG
  have hr:bW (D i) (dr.take j)=d:=by rw [iM bV];exact hg2
  cbv
  exact ⟨by have bK:=hr;exact bM⟩
end Go.Proofs.Pk
