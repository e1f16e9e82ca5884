import Derived.Test.YthnhbemmlfaihaaGreatO13
import Derived.Test.YthnhbemmlfaihaaGreatO20
import Derived.Test.YthnhbemmlfaihaaGreatO31
import Derived.Test.YthnhbemmlfaihaaGreatO33
set_option linter.unusedVariables false
set_option linter.unusedSimpArgs false
set_option maxRecDepth 10000
set_option maxHeartbeats 64000000
namespace Go.Proofs.Pk
open Go Go.Vc
structure aqH where
 n:Net
 m:dK
 c:iQ
 e:Int
structure xg (n:Net) (m:dK) (c:iQ) (e:Int):Prop where
 G:cb n.ins.length n.aY
 dr:∀d∈n.bj,0<=d/\d < 2+(n.ins.length:Int)+n.aY.length
 gl:n.bj.length<=1000000
 eq:mapM n.ins.length n.aY n.bj=(m,c,e)
@[reducible] noncomputable def S5:Vc.Spec where
 α:=aqH
 args x:=[.agg (jX x.n)]
 pre x:=xg x.n x.m x.c x.e
 res x:=.cM [.agg (yH x.m),.agg (Us x.c),.i .i64 (λ_=>x.e)]
theorem YO {I:Nat} {gs:List Gate} {s:dW} (h:jV I gs s) {r:Nat} {l:List Int} (hr:2+I<=r) (hl:s.leaves[r]?=some l):l.length<=4:=by
 have hb:=(a7.1 hl).1
 rw [h.oD] at hb
 obtain ⟨g,hg⟩:=bK (l:=gs) (i:=r - 2 - I) (by omega)
 have:=h.lf (r - 2 - I) l g (by rw [show 2+I+(r - 2 - I)=r by omega];exact hl) hg
 split at this
 ·rw [this];have:=(s7 g).2;omega
 ·exact this.2.1
structure adb (I:Nat) (gs:List Gate) (s:dW) (dr:List Int) (R:List Int) (V:List (List Int)) (sg:Int->Option Int):Prop where
 ok:E7 I R
 vl:V.length=R.length
 at_:∀(k:Nat) r,R[k]?=some r->2+(I:Int)<=r/\r < 2+(I:Int)+gs.length/\∃L,V[k]?=some L/\L.length<=1000000/\lT s r=L
 y9:∀v∈dr,∃t,sg v=some t
 cells:(mu I gs s dr).1.cells=R.map λr=>(cellOf I gs r (lT s r) sg).1
 bj:(mu I gs s dr).1.bj=dr.map λv=>(sg v).getD 0
 root:(mu I gs s dr).2.root=R
 leaves:(mu I gs s dr).2.leaves=V
theorem aqI {I:Nat} {gs:List Gate} (G:cb I gs) {s:dW} (h:jV I gs s) {dr:List Int} (hd:∀d∈dr,0<=d/\d < 2+(I:Int)+gs.length) {R:List Int} {V:List (List Int)} (hR:R=jR I s dr) (hV:V=(jR I s dr).map (lT s)) :
  adb I gs s dr R V (eu I R):=by
 subst hR hV
 obtain ⟨r1,r2,r3,r4,r5⟩:=OV G h hd
 have fM:(jR I s dr).Nodup:=r1.imp λh e=>by omega
 refine ⟨⟨?_,fM,λr hr=>(r2 r hr).1⟩,jP _,λk r hk=>?_,λv hv=>?_,rfl,rfl,rfl,rfl⟩
 ·have h2:((jR I s dr).map Int.toNat).Nodup:=by
   refine qT.2 ((Pn.2 ⟨fM,WM (r:=λa b=>0<=a/\0<=b) λa ha b hb=>?_⟩).imp λ⟨a,b⟩=>by omega)
   have:=r2 a ha;have:=r2 b hb;omega
  have:=BP h2 (l₂:=List.range (2+I+gs.length)) λw hw=>by
   obtain ⟨u,hu,rfl⟩:=iM.1 hw
   have:=r2 u hu
   exact mQ.2 (by omega)
  rw [jP,G6] at this
  have:=G.j6
  omega
 ·have hb:=r2 r (cf hk)
  refine ⟨hb.1,hb.2,lT s r,by rw [ml,hk];rfl,?_,rfl⟩
  unfold lT
  have hq:r.toNat < s.leaves.length:=by rw [h.oD];omega
  obtain ⟨l,hl⟩:=bK hq
  rw [List.getD_eq_getElem?_getD,hl,tX]
  have:=YO h (by omega) hl
  omega
 ·refine Hi ?_
  have:=hd v hv
  by_cases jB:v < 2+(I:Int)
  ·exact .inl ⟨this.1,jB⟩
  ·exact .inr (r3 v hv (by omega))
noncomputable def aqJ (n m:Nat):Ctx:=dM n m [] [(115,M9)]
theorem ams (n m:Nat):CB PP (aqJ n m):=dP n m trivial ⟨Ri,trivial⟩
noncomputable def cMa (n m:Nat):Ctx:=dM n m [(182,Tryz.f182)] [(181,SP),(146,ada),(115,M9),(116,SU)] [182] [] [20]
theorem HZ (n m:Nat):CB PP (cMa n m):=dP n m ⟨fo Tryz.func182,trivial⟩ ⟨aat,amr,Ri,aax,trivial⟩
theorem aaG:dt (PP ()) 104 S5:=by
 refine e6 (HZ 0 0) (fo Tryz.func104) (λa=>⟨mr a.n,trivial⟩) (λa=>⟨z8 a.m,aay a.c,trivial,trivial⟩) ?_
 rintro ⟨⟨ins,gs,outs,dr⟩,⟨mn,mc,md⟩,⟨cr,cl⟩,e⟩ hx
 obtain ⟨G,Bj,wB,hm⟩:xg ⟨ins,gs,outs,dr⟩ ⟨mn,mc,md⟩ ⟨cr,cl⟩ e:=hx
 have G:cb ins.length gs:=G
 have Bj:∀d∈dr,0<=d/\d < 2+(ins.length:Int)+gs.length:=Bj
 have wB:dr.length<=1000000:=wB
 have hm:mapM ins.length gs dr=(⟨mn,mc,md⟩,⟨cr,cl⟩,e):=hm
 have hb:=G.j6
 obtain ⟨out,du⟩:∃out,iO ins.length gs=out:=⟨_,rfl⟩
 have hlp:cb ins.length gs/\iO ins.length gs=out:=⟨G,du⟩
 unfold mapM at hm
 rw [du] at hm
 rcases out with _|⟨LL,CC,FF⟩
 ·obtain ⟨⟨rfl,rfl,rfl⟩,⟨rfl,rfl⟩,rfl⟩:(0=mn/\[]=mc/\[]=md)/\([]=cr/\[]=cl)/\2=e:=by simpa only [Prod.mk.injEq,dK.mk.injEq,iQ.mk.injEq] using hm
  refine ⟨?_⟩
  cbv
  refine ⟨⟨⟨ins,gs,outs,dr⟩,none⟩,⟨by exact bp,hlp⟩,?_⟩
  cbv
  exact ⟨by ((try cbv)<;>((repeat' first|exact dA.nil|exact Le.refl _|refine dA.cons ?_ ?_|exact Le.ic rfl|exact Le.bc rfl|exact Le.i rfl|exact Le.b rfl|exact Le.sl rfl|exact Le.mp rfl|exact Le.gq rfl|exact Le.pP rfl|refine Le.cQ rfl (λ_=>?_)|refine Le.ew rfl (λ_ _=>rfl) (λ_=>?_) ?_|refine Le.agg ?_|refine Le.cM ?_|refine Le.fn ?_ ?_|refine Le.dV ?_|exact trivial|refine And.intro ?_ ?_|refine λ_=>?_|exact Le.any _)))<;>first|exact .cQ rfl (λx=>(zT x).1)|exact .cQ rfl (λx=>(cP x).1)|exact .cQ rfl (λx=>(mT x).1)⟩
 have hs:jV ins.length gs ⟨LL,CC,FF⟩:=EC _ rfl G du
 have wv:LL.length=2+ins.length+gs.length:=hs.len
 have hFl:FF.length=2+ins.length+gs.length:=hs.oD
 have lg:0<=((LL.length:Nat):Int)/\((LL.length:Nat):Int)<=((LL.length:Nat):Int)/\((1:Nat):Int)*((LL.length:Nat):Int)<=281474976710656/\((LL.length:Nat):Int)<=9223372036854775807:=by omega
 have vT:List.replicate ((LL.length:Nat):Int).toNat false=List.replicate LL.length false:=by rw [ke]
 have aqK:∀(l:List Bool) (x:Int),l.length=LL.length->x∈dr->Nh ⟨ins,gs,outs,dr⟩ ⟨LL,CC,FF⟩ l x/\x.toNat<=x.toNat:=λl x hl hx=>⟨⟨G,hs,hl.trans wv,(Bj x hx).1,(Bj x hx).2⟩,fb _⟩
 have amt:∀(j:Nat) (l:List Bool),tE ins.length ⟨LL,CC,FF⟩ dr LL.length j l->dr.length<=j->qq l l.length=jR ins.length ⟨LL,CC,FF⟩ dr:=λj l h hj=>agL (fb _) (tE.fin G hs (by rw [<-wv];exact h) hj Bj)
 have hMF:∀(j:Nat) (l:List Bool) (R:List Int) (V:List (List Int)),tE ins.length ⟨LL,CC,FF⟩ dr LL.length j l->dr.length<=j->R=jR ins.length ⟨LL,CC,FF⟩ dr->V=(jR ins.length ⟨LL,CC,FF⟩ dr).map (lT ⟨LL,CC,FF⟩)->adb ins.length gs ⟨LL,CC,FF⟩ dr R V (eu ins.length R):=λj l R V h hj hR hV=>aqI G hs Bj hR hV
 obtain ⟨MO,Gi⟩:∃MO,mu ins.length gs ⟨LL,CC,FF⟩ dr=MO:=⟨_,rfl⟩
 have xl:(MO.1,MO.2,(0:Int))=((⟨mn,mc,md⟩:dK),(⟨cr,cl⟩:iQ),e):=by rw [<-Gi];exact hm
 simp only [Prod.mk.injEq] at xl
 obtain ⟨AU,mG,Bd⟩:=xl
 have hmc:(mu ins.length gs ⟨LL,CC,FF⟩ dr).1.cells=mc:=by rw [Gi,AU]
 have hmd:(mu ins.length gs ⟨LL,CC,FF⟩ dr).1.bj=md:=by rw [Gi,AU]
 have xm:(ins.length:Int)=mn:=by
    have h:(mu ins.length gs ⟨LL,CC,FF⟩ dr).1.n=mn:=by rw [Gi,AU]
    exact h
 have hcr:(mu ins.length gs ⟨LL,CC,FF⟩ dr).2.root=cr:=by rw [Gi,mG]
 have j3:(mu ins.length gs ⟨LL,CC,FF⟩ dr).2.leaves=cl:=by rw [Gi,mG]
 have aqL:∀(j:Nat) (l:List Bool) (i:Nat) (L:List Int),tE ins.length ⟨LL,CC,FF⟩ dr LL.length j l->l[i]?=some true->FF[i]?=some L->L.length<=1000000:=λj l i L h hi hL=>by
  have:=YO hs (h.nw i hi).1 hL;omega
 refine ⟨?_⟩
 cbv
 refine ⟨⟨⟨ins,gs,outs,dr⟩,some ⟨LL,CC,FF⟩⟩,⟨by exact bp,hlp⟩,?_⟩
 cbv
 refine ⟨⟨lg⟩,?_⟩
 refine Sat.cU (HZ 0 0) 7 9 [] (λy:Nat × List Bool=>[(39,.sl 1 bC (λ_=>dr)),(40,.i .i64 (λ_=>(dr.length:Int))),(41,.i .i64 (λ_=>(y.1:Int)))]) (λy=>[(4,.dyn 4 1 lX (λ_=>y.2))]) (λy=>tE ins.length ⟨LL,CC,FF⟩ dr LL.length y.1 y.2) (λy=>dr.length - y.1) (0,List.replicate LL.length false) (by exact aM) (by have fq:=vT;exact a8) (.start _ _ _ _) ?_
 rintro ⟨j,l⟩ hJ
 have hJ:tE ins.length ⟨LL,CC,FF⟩ dr LL.length j l:=hJ
 have dG:=hJ.le
 have mJ:=hJ.len
 have gV:=n0 j
 have jm:=cX (i:=j) (by omega)
 cbv
 refine ⟨λh=>?_,λh=>?_⟩
 ·have vV:j < dr.length:=aL
  have bX:dr.length - (j+1) < dr.length - j:=by omega
  refine (bK vV).elim λx hx=>?_
  have ej:=aqK l x mJ (cf hx)
  clear h
  cbv
  refine ⟨x,⟨gV,hx⟩,?_⟩
  cbv
  refine fh.uT (abL x.toNat) (λa y=>trivial) ⟨⟨ins,gs,outs,dr⟩,⟨LL,CC,FF⟩,l,x⟩ [0,5,4,3,6] rfl (by exact bp) (by exact aM) ⟨ej⟩ λy hy=>?_
  have bV:=hJ.step hx hy.out
  cbv
  exact ⟨(j+1,y),by have bD:=jm;exact a8,by exact aM,⟨⟨bV,bX⟩⟩⟩
 have cz:dr.length<=j:=aL
 have hRm:=amt j l hJ cz
 have hwf:l.length=2+ins.length+gs.length:=mJ.trans wv
 obtain ⟨Rf,oO⟩:∃Rf:Nat->List Int,∀i,Rf i=qq l i:=⟨_,λ_=>rfl⟩
 obtain ⟨Vf,Dw⟩:∃Vf:Nat->List (List Int),∀i,Vf i=(qq l i).map (lT ⟨LL,CC,FF⟩):=⟨_,λ_=>rfl⟩
 have Gb:[]=Rf 0:=by rw [oO];rfl
 have Ux:[]=Vf 0:=by rw [Dw];rfl
 have hRy:∀(i:Nat) L,l[i]?=some true->FF[i]?=some L->Rf i++[(i:Int)]=Rf (i+1)/\Vf i++[L]=Vf (i+1):=λi L h hL=>by
  rw [oO,oO,Dw,Dw,ag8 h,qm,iG,zC]
  refine ⟨rfl,?_⟩
  unfold lT
  rw [ke,List.getD_eq_getElem?_getD]
  show _++[L]=_++[(FF[i]?).getD []]
  rw [hL];rfl
 have Ds:∀i:Nat,l[i]?=some false->Rf i=Rf (i+1)/\Vf i=Vf (i+1):=λi h=>by
  rw [oO,oO,Dw,Dw,ahF h];exact ⟨rfl,rfl⟩
 have N4:∀i,(Rf i).length<=i/\(Vf i).length<=i:=λi=>by
  rw [oO,Dw,jP];exact ⟨Wk l i,Wk l i⟩
 have hRe:Rf l.length=jR ins.length ⟨LL,CC,FF⟩ dr:=by rw [oO];exact hRm
 have hVe:Vf l.length=(jR ins.length ⟨LL,CC,FF⟩ dr).map (lT ⟨LL,CC,FF⟩):=by rw [Dw,hRm]
 clear h
 cbv
 refine Sat.ox 8 0 3 1 wV cP rfl rfl ?_
 cbv
 refine Sat.ox 8 1 35 1 Lq mT rfl rfl ?_
 cbv
 refine Sat.cU (HZ 0 0) 11 13 [(.c 8 0,9),(.c 8 1,10)] (λi:Nat=>[(55,.i .i64 (λ_=>(l.length:Int))),(56,.i .i64 (λ_=>(i:Int)))]) (λi=>[(8,.fix 92 [.own 9,.own 10]),(9,.dyn 3 1 bC (λ_=>Rf i)),(10,.dyn 35 1 eB (λ_=>Vf i))]) (λi=>i<=l.length) (λi=>l.length - i) 0 (by exact aM) (by have fq:=Gb;have rD:=Ux;exact a8) (cg _) ?_
 intro i hi
 have hi:i<=l.length:=hi
 have cZ:=n0 i
 have ei:=cX (i:=i) (by omega)
 obtain ⟨xI,wb⟩:=N4 i
 have b1:((Rf i).length+1)*8<=140737488355328:=by omega
 have b2:(Rf i).length+1<=9223372036854775807:=by omega
 have b3:((Vf i).length+1)*24<=140737488355328:=by omega
 have b4:(Vf i).length+1<=9223372036854775807:=by omega
 have hry:=hRy i
 have Gh:=Ds i
 cbv
 refine ⟨λh=>?_,λh=>?_⟩
 ·have bQ:i < l.length:=aL
  have bX:l.length - (i+1) < l.length - i:=by omega
  refine (bK bQ).elim λb nD=>?_
  have hif:i < FF.length:=by omega
  refine (bK hif).elim λL hL=>?_
  clear h
  cbv
  refine ⟨⟨⟨cZ,bQ⟩⟩,?_⟩
  cbv
  refine ⟨b,⟨nD,rfl⟩,?_⟩
  cbv
  refine ⟨λh=>?_,λh=>?_⟩
  ·have lI:b=true:=h.out
   subst lI
   obtain ⟨n1,n2⟩:=hry L nD hL
   have hL6:=aqL j l i L hJ nD hL
   cbv
   refine ⟨[(i:Int)],⟨by exact bp,b1,b2⟩,?_⟩
   cbv
   refine ⟨L,⟨⟨cZ,hL⟩⟩,?_⟩
   cbv
   refine ⟨L,⟨by exact bp,hL6⟩,?_⟩
   cbv
   refine ⟨[L],⟨by exact bp,b3,b4⟩,?_⟩
   cbv
   exact ⟨i+1,by have bD:=ei;exact a8,by have fq:=n1;have rD:=n2;exact a8,⟨⟨bQ,bX⟩⟩⟩
  ·have JB:b=false:=h.out
   subst JB
   obtain ⟨n1,n2⟩:=Gh nD
   cbv
   exact ⟨i+1,by have bD:=ei;exact a8,by have fq:=n1;have rD:=n2;exact a8,⟨⟨bQ,bX⟩⟩⟩
 have Nb:l.length<=i:=aL
 obtain rfl:i=l.length:=by omega
 obtain ⟨f1,f2,f3,f4,f5,f6,f7,f8⟩:=hMF j l (Rf l.length) (Vf l.length) hJ cz hRe hVe
 obtain ⟨f11,f12,f13⟩:=f1
 have f1:(Rf l.length).length<=1000000/\(Rf l.length).Nodup/\∀r∈Rf l.length,2+(ins.length:Int)<=r:=⟨f11,f12,f13⟩
 obtain ⟨sg,JD⟩:∃sg,eu ins.length (Rf l.length)=sg:=⟨_,rfl⟩
 rw [JD] at f4 f5 f6
 obtain ⟨Cf,JJ⟩:∃Cf:Nat->List Cell,∀k,Cf k=((Rf l.length).take k).map λr=>(cellOf ins.length gs r (lT ⟨LL,CC,FF⟩ r) sg).1:=⟨_,λ_=>rfl⟩
 obtain ⟨Df,JK⟩:∃Df:Nat->List Int,∀k,Df k=(dr.take k).map λv=>(sg v).getD 0:=⟨_,λ_=>rfl⟩
 have hC0:[]=Cf 0:=by rw [JJ];rfl
 have hD0:[]=Df 0:=by rw [JK];rfl
 have hCn:∀(k:Nat) (r:Int) (c:Cell) (e:Int) (L:List Int),(Rf l.length)[k]?=some r->lT ⟨LL,CC,FF⟩ r=L->cellOf ins.length gs r L sg=(c,e)->Cf k++[c]=Cf (k+1):=λk r c e L h1 hL h2=>by
  rw [JJ,JJ,kf,h1,pF,qm,iG,zC,hL,h2]
 have Ju:∀(k:Nat) (v t:Int),dr[k]?=some v->sg v=some t->Df k++[t]=Df (k+1):=λk v t h1 h2=>by
  rw [JK,JK,kf,h1,pF,qm,iG,zC,h2];rfl
 have Uj:∀k,(Cf k).length<=k:=λk=>by rw [JJ,jP,jd];omega
 have hDl:∀k,(Df k).length<=k:=λk=>by rw [JK,jP,jd];omega
 have hCe:∀k,(Rf l.length).length<=k->Cf k=mc:=λk hk=>by rw [JJ,iL hk,<-f5,hmc]
 have hDe:∀k,dr.length<=k->Df k=md:=λk hk=>by rw [JK,iL hk,<-f6,hmd]
 have hRr:Rf l.length=cr:=by rw [<-f7,hcr]
 have hVv:Vf l.length=cl:=by rw [<-f8,j3]
 have yU:∀(r:Int) (L:List Int),L.length<=1000000->2+(ins.length:Int)<=r->r < 2+(ins.length:Int)+gs.length->∃c e,Nd ⟨ins,gs,outs,dr⟩ r L sg c e/\cellOf ins.length gs r L sg=(c,e):=λr L h1 h2 h3=>⟨_,_,⟨G,h1,h2,h3,rfl⟩,rfl⟩
 have fV:ins.length<=1000000/\E7 ins.length (Rf l.length):=⟨by omega,f11,f12,f13⟩
 clear h
 cbv
 refine Sat.freeze 9 rfl rfl ?_
 refine Sat.freeze 10 rfl rfl ?_
 refine Sat.jN (ams 0 0) ?_
 cbv
 refine ⟨⟨⟨ins,gs,outs,dr⟩,Rf l.length⟩,⟨by exact bp,fV⟩,?_⟩
 cbv
 refine Sat.ox 7 1 135 3 QI zT rfl rfl ?_
 cbv
 refine Sat.ox 7 2 3 1 wV cP rfl rfl ?_
 cbv
 refine Sat.cU (HZ 0 0) 13 15 [(.c 7 1,11),(.c 7 2,12)] (λk:Nat=>[(14,.mp (.int .i64) bC (λ_=>sg)),(88,.sl 1 bC (λ_=>Rf l.length)),(89,.i .i64 (λ_=>((Rf l.length).length:Int))),(90,.i .i64 (λ_=>(k:Int)))]) (λk=>[(11,.dyn 135 3 mw (λ_=>Cf k)),(12,.dyn 3 1 bC (λ_=>Df 0))]) (λk=>k<=(Rf l.length).length) (λk=>(Rf l.length).length - k) 0 (by have Jn:=JD;exact a8) (by have fq:=hC0;have rD:=hD0;exact a8) (cg _) ?_
 intro k hk
 have hk:k<=(Rf l.length).length:=hk
 have gR:=n0 k
 have ie:=cX (i:=k) (by omega)
 have Jj:=Uj k
 have b5:((Cf k).length+1)*40<=140737488355328:=by omega
 have b6:(Cf k).length+1<=9223372036854775807:=by omega
 have JL:=hCn k
 have nA:=hCe k
 cbv
 refine ⟨λh=>?_,λh=>?_⟩
 ·have cT:k < (Rf l.length).length:=aL
  have bX:(Rf l.length).length - (k+1) < (Rf l.length).length - k:=by omega
  refine (bK cT).elim λr hr=>?_
  obtain ⟨r1,r2,L,r3,r4,r5⟩:=f3 k r hr
  obtain ⟨c,ee,c1,c2⟩:=yU r L r4 r1 r2
  have hn:=JL r c ee L hr r5 c2
  clear h
  cbv
  refine ⟨r,⟨gR,hr⟩,?_⟩
  cbv
  refine ⟨L,⟨gR,r3⟩,?_⟩
  cbv
  refine ⟨⟨⟨ins,gs,outs,dr⟩,r,L,sg,c,ee⟩,⟨by exact bp,c1⟩,?_⟩
  cbv
  refine ⟨[c],⟨by exact bp,b5,b6⟩,?_⟩
  cbv
  exact ⟨k+1,by have bD:=ie;exact a8,by have fq:=hn;exact a8,⟨⟨cT,bX⟩⟩⟩
 have hkg:(Rf l.length).length<=k:=aL
 have nA:=nA hkg
 clear h
 cbv
 refine Sat.cU (HZ 0 0) 13 15 [(.c 7 1,11),(.c 7 2,12)] (λq:Nat=>[(115,.sl 1 bC (λ_=>dr)),(116,.i .i64 (λ_=>(dr.length:Int))),(117,.i .i64 (λ_=>(q:Int)))]) (λq=>[(12,.dyn 3 1 bC (λ_=>Df q))]) (λq=>q<=dr.length) (λq=>dr.length - q) 0 (by exact aM) (by exact aM) (cg _) ?_
 intro q hq
 have hq:q<=dr.length:=hq
 have xJ:=n0 q
 have Bh:=cX (i:=q) (by omega)
 have hdq:=hDl q
 have b7:((Df q).length+1)*8<=140737488355328:=by omega
 have b8:(Df q).length+1<=9223372036854775807:=by omega
 have hdn:=Ju q
 have JI:=hDe q
 cbv
 refine ⟨λh=>?_,λh=>?_⟩
 ·have xu:q < dr.length:=aL
  have bX:dr.length - (q+1) < dr.length - q:=by omega
  refine (bK xu).elim λv hv=>?_
  obtain ⟨t,ht⟩:=f4 v (cf hv)
  have hn:=hdn v t hv ht
  clear h
  cbv
  refine ⟨v,⟨xJ,hv⟩,?_⟩
  cbv
  refine ⟨some (some t),⟨ht⟩,?_⟩
  cbv
  refine ⟨[t],⟨by exact bp,b7,b8⟩,?_⟩
  cbv
  exact ⟨q+1,by have bD:=Bh;exact a8,by have fq:=hn;exact a8,⟨⟨xu,bX⟩⟩⟩
 have UB:dr.length<=q:=aL
 have JI:=JI UB
 clear h
 cbv
 exact ⟨by have jM:=hRr;have Di:=hVv;have F1:=nA;have F2:=JI;have bD:=xm;have iC:=Bd;exact cd⟩
end Go.Proofs.Pk
