import Derived.Test.YthnhbemmlfaihaaGreatQ11
import Derived.Test.YthnhbemmlfaihaaGreatQ13
import Derived.Test.YthnhbemmlfaihaaGreatQ22
import Derived.Test.YthnhbemmlfaihaaGreatQ25
set_option linter.unusedVariables false
set_option linter.unusedSimpArgs false
set_option maxRecDepth 10000
set_option maxHeartbeats 64000000
namespace Go.Proofs.Pk
open Go Go.Vc
structure as6 where
 n:Net
 m:ej
 c:k9
 e:Int
structure G9 (n:Net) (m:ej) (c:k9) (e:Int):Prop where
 G:ca n.ins.length n.aT
 dr:∀d∈n.bj,0<=d/\d < 2+(n.ins.length:Int)+n.aT.length
 e6:n.bj.length<=1000000
 eq:mapM n.ins.length n.aT n.bj=(m,c,e)
@[reducible] noncomputable def Pe:Vc.Spec where
 α:=as6
 args x:=[.agg (jr x.n)]
 pre x:=G9 x.n x.m x.c x.e
 res x:=.cS [.agg (wR x.m),.agg (Wp x.c),.i .i64 (λ_=>x.e)]
theorem aaH {I:Nat} {gs:List Gate} {s:eT} (h:oy I gs s) {r:Nat} {l:List Int} (hr:2+I<=r) (hl:s.leaves[r]?=some l):l.length<=4:=by
 have hb:=(bt.1 hl).1
 rw [h.q9] at hb
 obtain ⟨g,hg⟩:=bO (l:=gs) (i:=r - 2 - I) (by omega)
 have:=h.lf (r - 2 - I) l g (by rw [show 2+I+(r - 2 - I)=r by omega];exact hl) hg
 split at this
 ·rw [this];have:=(xF g).2;omega
 ·exact this.2.1
structure afg (I:Nat) (gs:List Gate) (s:eT) (dr:List Int) (R:List Int) (V:List (List Int)) (sg:Int->Option Int):Prop where
 ok:GD I R
 vl:V.length=R.length
 at_:∀(k:Nat) r,R[k]?=some r->2+(I:Int)<=r/\r < 2+(I:Int)+gs.length/\∃L,V[k]?=some L/\L.length<=1000000/\na s r=L
 EJ:∀v∈dr,∃t,sg v=some t
 cells:(ox I gs s dr).1.cells=R.map λr=>(cellOf I gs r (na s r) sg).1
 bj:(ox I gs s dr).1.bj=dr.map λv=>(sg v).getD 0
 root:(ox I gs s dr).2.root=R
 leaves:(ox I gs s dr).2.leaves=V
theorem as7 {I:Nat} {gs:List Gate} (G:ca I gs) {s:eT} (h:oy I gs s) {dr:List Int} (hd:∀d∈dr,0<=d/\d < 2+(I:Int)+gs.length) {R:List Int} {V:List (List Int)} (hR:R=kX I s dr) (hV:V=(kX I s dr).map (na s)) :
  afg I gs s dr R V (eP I R):=by
 subst hR hV
 obtain ⟨r1,r2,r3,r4,r5⟩:=Yh G h hd
 have gC:(kX I s dr).Nodup:=r1.imp λh e=>by omega
 refine ⟨⟨?_,gC,λr hr=>(r2 r hr).1⟩,iR _,λk r hk=>?_,λv hv=>?_,rfl,rfl,rfl,rfl⟩
 ·have h2:((kX I s dr).map Int.toNat).Nodup:=by
   refine rJ.2 ((Rm.2 ⟨gC,YO (r:=λa b=>0<=a/\0<=b) λa ha b hb=>?_⟩).imp λ⟨a,b⟩=>by omega)
   have:=r2 a ha;have:=r2 b hb;omega
  have:=C3 h2 (l₂:=List.range (2+I+gs.length)) λw hw=>by
   obtain ⟨u,hu,rfl⟩:=jS.1 hw
   have:=r2 u hu
   exact mX.2 (by omega)
  rw [iR,IT] at this
  have:=G.k8
  omega
 ·have hb:=r2 r (cB hk)
  refine ⟨hb.1,hb.2,na s r,by rw [mq,hk];rfl,?_,rfl⟩
  unfold na
  have hq:r.toNat < s.leaves.length:=by rw [h.q9];omega
  obtain ⟨l,hl⟩:=bO hq
  rw [List.getD_eq_getElem?_getD,hl,u5]
  have:=aaH h (by omega) hl
  omega
 ·refine I9 ?_
  have:=hd v hv
  by_cases iK:v < 2+(I:Int)
  ·exact .inl ⟨this.1,iK⟩
  ·exact .inr (r3 v hv (by omega))
noncomputable def as8 (n m:Nat):Ctx:=dH n m [] [(115,O4)]
theorem aoD (n m:Nat):CB PP (as8 n m):=dK n m trivial ⟨Tq,trivial⟩
noncomputable def cMa (n m:Nat):Ctx:=dH n m [(182,Tryz.f182)] [(181,UQ),(146,aff),(115,O4),(116,UT)] [182] [] [20]
theorem JQ (n m:Nat):CB PP (cMa n m):=dK n m ⟨fo Tryz.func182,trivial⟩ ⟨acz,aoC,Tq,acD,trivial⟩
theorem TA:cR (PP ()) 104 Pe:=by
 refine et (JQ 0 0) (fo Tryz.func104) (λa=>⟨mu a.n,trivial⟩) (λa=>⟨y4 a.m,acE a.c,trivial,trivial⟩) ?_
 rintro ⟨⟨ins,gs,outs,dr⟩,⟨mn,mc,md⟩,⟨cr,cl⟩,e⟩ hx
 obtain ⟨G,Cm,xh,hm⟩:G9 ⟨ins,gs,outs,dr⟩ ⟨mn,mc,md⟩ ⟨cr,cl⟩ e:=hx
 have G:ca ins.length gs:=G
 have Cm:∀d∈dr,0<=d/\d < 2+(ins.length:Int)+gs.length:=Cm
 have xh:dr.length<=1000000:=xh
 have hm:mapM ins.length gs dr=(⟨mn,mc,md⟩,⟨cr,cl⟩,e):=hm
 have hb:=G.k8
 obtain ⟨out,cb⟩:∃out,kF ins.length gs=out:=⟨_,rfl⟩
 have hlp:ca ins.length gs/\kF ins.length gs=out:=⟨G,cb⟩
 unfold mapM at hm
 rw [cb] at hm
 rcases out with _|⟨LL,CC,FF⟩
 ·obtain ⟨⟨rfl,rfl,rfl⟩,⟨rfl,rfl⟩,rfl⟩:(0=mn/\[]=mc/\[]=md)/\([]=cr/\[]=cl)/\2=e:=by simpa only [Prod.mk.injEq,ej.mk.injEq,k9.mk.injEq] using hm
  refine ⟨?_⟩
  cbv
  refine ⟨⟨⟨ins,gs,outs,dr⟩,none⟩,⟨by exact bp,hlp⟩,?_⟩
  cbv
  exact ⟨by ((try cbv)<;>((repeat' first|exact dF.nil|exact Le.refl _|refine dF.cons ?_ ?_|exact Le.ic rfl|exact Le.bc rfl|exact Le.i rfl|exact Le.b rfl|exact Le.sl rfl|exact Le.mp rfl|exact Le.gH rfl|exact Le.qu rfl|refine Le.cW rfl (λ_=>?_)|refine Le.eF rfl (λ_ _=>rfl) (λ_=>?_) ?_|refine Le.agg ?_|refine Le.cS ?_|refine Le.fn ?_ ?_|refine Le.dU ?_|exact trivial|refine And.intro ?_ ?_|refine λ_=>?_|exact Le.any _)))<;>first|exact .cW rfl (λx=>(wx x).1)|exact .cW rfl (λx=>(df x).1)|exact .cW rfl (λx=>(nJ x).1)⟩
 have hs:oy ins.length gs ⟨LL,CC,FF⟩:=Js _ rfl G cb
 have yz:LL.length=2+ins.length+gs.length:=hs.len
 have hFl:FF.length=2+ins.length+gs.length:=hs.q9
 have lX:0<=((LL.length:Nat):Int)/\((LL.length:Nat):Int)<=((LL.length:Nat):Int)/\((1:Nat):Int)*((LL.length:Nat):Int)<=281474976710656/\((LL.length:Nat):Int)<=9223372036854775807:=by omega
 have wT:List.replicate ((LL.length:Nat):Int).toNat false=List.replicate LL.length false:=by rw [jQ]
 have as9:∀(l:List Bool) (x:Int),l.length=LL.length->x∈dr->Pd ⟨ins,gs,outs,dr⟩ ⟨LL,CC,FF⟩ l x/\x.toNat<=x.toNat:=λl x hl hx=>⟨⟨G,hs,hl.trans yz,(Cm x hx).1,(Cm x hx).2⟩,fq _⟩
 have aoE:∀(j:Nat) (l:List Bool),uI ins.length ⟨LL,CC,FF⟩ dr LL.length j l->dr.length<=j->qQ l l.length=kX ins.length ⟨LL,CC,FF⟩ dr:=λj l h hj=>ai8 (fq _) (uI.fin G hs (by rw [<-yz];exact h) hj Cm)
 have hMF:∀(j:Nat) (l:List Bool) (R:List Int) (V:List (List Int)),uI ins.length ⟨LL,CC,FF⟩ dr LL.length j l->dr.length<=j->R=kX ins.length ⟨LL,CC,FF⟩ dr->V=(kX ins.length ⟨LL,CC,FF⟩ dr).map (na ⟨LL,CC,FF⟩)->afg ins.length gs ⟨LL,CC,FF⟩ dr R V (eP ins.length R):=λj l R V h hj hR hV=>as7 G hs Cm hR hV
 obtain ⟨MO,HU⟩:∃MO,ox ins.length gs ⟨LL,CC,FF⟩ dr=MO:=⟨_,rfl⟩
 have x8:(MO.1,MO.2,(0:Int))=((⟨mn,mc,md⟩:ej),(⟨cr,cl⟩:k9),e):=by rw [<-HU];exact hm
 simp only [Prod.mk.injEq] at x8
 obtain ⟨BS,nr,Ce⟩:=x8
 have Lj:(ox ins.length gs ⟨LL,CC,FF⟩ dr).1.cells=mc:=by rw [HU,BS]
 have zU:(ox ins.length gs ⟨LL,CC,FF⟩ dr).1.bj=md:=by rw [HU,BS]
 have x9:(ins.length:Int)=mn:=by
    have h:(ox ins.length gs ⟨LL,CC,FF⟩ dr).1.n=mn:=by rw [HU,BS]
    exact h
 have hcr:(ox ins.length gs ⟨LL,CC,FF⟩ dr).2.root=cr:=by rw [HU,nr]
 have jC:(ox ins.length gs ⟨LL,CC,FF⟩ dr).2.leaves=cl:=by rw [HU,nr]
 have ata:∀(j:Nat) (l:List Bool) (i:Nat) (L:List Int),uI ins.length ⟨LL,CC,FF⟩ dr LL.length j l->l[i]?=some true->FF[i]?=some L->L.length<=1000000:=λj l i L h hi hL=>by
  have:=aaH hs (h.nw i hi).1 hL;omega
 refine ⟨?_⟩
 cbv
 refine ⟨⟨⟨ins,gs,outs,dr⟩,some ⟨LL,CC,FF⟩⟩,⟨by exact bp,hlp⟩,?_⟩
 cbv
 refine ⟨⟨lX⟩,?_⟩
 refine Sat.dq (JQ 0 0) 7 9 [] (λy:Nat × List Bool=>[(39,.sl 1 bP (λ_=>dr)),(40,.i .i64 (λ_=>(dr.length:Int))),(41,.i .i64 (λ_=>(y.1:Int)))]) (λy=>[(4,.dyn 4 1 fB (λ_=>y.2))]) (λy=>uI ins.length ⟨LL,CC,FF⟩ dr LL.length y.1 y.2) (λy=>dr.length - y.1) (0,List.replicate LL.length false) (by exact aM) (by have fc:=wT;exact bh) (.start _ _ _ _) ?_
 rintro ⟨j,l⟩ hJ
 have hJ:uI ins.length ⟨LL,CC,FF⟩ dr LL.length j l:=hJ
 have eo:=hJ.le
 have kP:=hJ.len
 have iM:=n0 j
 have j3:=dC (i:=j) (by omega)
 cbv
 refine ⟨λh=>?_,λh=>?_⟩
 ·have wP:j < dr.length:=aH
  have bZ:dr.length - (j+1) < dr.length - j:=by omega
  refine (bO wP).elim λx hx=>?_
  have eD:=as9 l x kP (cB hx)
  clear h
  cbv
  refine ⟨x,⟨iM,hx⟩,?_⟩
  cbv
  refine gw.vL (ad4 x.toNat) (λa y=>trivial) ⟨⟨ins,gs,outs,dr⟩,⟨LL,CC,FF⟩,l,x⟩ [0,5,4,3,6] rfl (by exact bp) (by exact aM) ⟨eD⟩ λy hy=>?_
  have bS:=hJ.step hx hy.out
  cbv
  exact ⟨(j+1,y),by have bH:=j3;exact bh,by exact aM,⟨⟨bS,bZ⟩⟩⟩
 have cG:dr.length<=j:=aH
 have hRm:=aoE j l hJ cG
 have hwf:l.length=2+ins.length+gs.length:=kP.trans yz
 obtain ⟨Rf,pa⟩:∃Rf:Nat->List Int,∀i,Rf i=qQ l i:=⟨_,λ_=>rfl⟩
 obtain ⟨Vf,EU⟩:∃Vf:Nat->List (List Int),∀i,Vf i=(qQ l i).map (na ⟨LL,CC,FF⟩):=⟨_,λ_=>rfl⟩
 have HK:[]=Rf 0:=by rw [pa];rfl
 have WD:[]=Vf 0:=by rw [EU];rfl
 have hRy:∀(i:Nat) L,l[i]?=some true->FF[i]?=some L->Rf i++[(i:Int)]=Rf (i+1)/\Vf i++[L]=Vf (i+1):=λi L h hL=>by
  rw [pa,pa,EU,EU,ajv h,qe,iE,AD]
  refine ⟨rfl,?_⟩
  unfold na
  rw [jQ,List.getD_eq_getElem?_getD]
  show _++[L]=_++[(FF[i]?).getD []]
  rw [hL];rfl
 have EM:∀i:Nat,l[i]?=some false->Rf i=Rf (i+1)/\Vf i=Vf (i+1):=λi h=>by
  rw [pa,pa,EU,EU,ajX h];exact ⟨rfl,rfl⟩
 have zR:∀i,(Rf i).length<=i/\(Vf i).length<=i:=λi=>by
  rw [pa,EU,iR];exact ⟨Yo l i,Yo l i⟩
 have hRe:Rf l.length=kX ins.length ⟨LL,CC,FF⟩ dr:=by rw [pa];exact hRm
 have hVe:Vf l.length=(kX ins.length ⟨LL,CC,FF⟩ dr).map (na ⟨LL,CC,FF⟩):=by rw [EU,hRm]
 clear h
 cbv
 refine Sat.oV 8 0 3 1 xN df rfl rfl ?_
 cbv
 refine Sat.oV 8 1 35 1 Nl nJ rfl rfl ?_
 cbv
 refine Sat.dq (JQ 0 0) 11 13 [(.c 8 0,9),(.c 8 1,10)] (λi:Nat=>[(55,.i .i64 (λ_=>(l.length:Int))),(56,.i .i64 (λ_=>(i:Int)))]) (λi=>[(8,.fix 92 [.own 9,.own 10]),(9,.dyn 3 1 bP (λ_=>Rf i)),(10,.dyn 35 1 e8 (λ_=>Vf i))]) (λi=>i<=l.length) (λi=>l.length - i) 0 (by exact aM) (by have fc:=HK;have sr:=WD;exact bh) (cg _) ?_
 intro i hi
 have hi:i<=l.length:=hi
 have dV:=n0 i
 have e7:=dC (i:=i) (by omega)
 obtain ⟨xg,Ez⟩:=zR i
 have b1:((Rf i).length+1)*8<=140737488355328:=by omega
 have b2:(Rf i).length+1<=9223372036854775807:=by omega
 have b3:((Vf i).length+1)*24<=140737488355328:=by omega
 have b4:(Vf i).length+1<=9223372036854775807:=by omega
 have hry:=hRy i
 have HS:=EM i
 cbv
 refine ⟨λh=>?_,λh=>?_⟩
 ·have bM:i < l.length:=aH
  have bZ:l.length - (i+1) < l.length - i:=by omega
  refine (bO bM).elim λb mi=>?_
  have hif:i < FF.length:=by omega
  refine (bO hif).elim λL hL=>?_
  clear h
  cbv
  refine ⟨⟨⟨dV,bM⟩⟩,?_⟩
  cbv
  refine ⟨b,⟨mi,rfl⟩,?_⟩
  cbv
  refine ⟨λh=>?_,λh=>?_⟩
  ·have mh:b=true:=h.out
   subst mh
   obtain ⟨n1,n2⟩:=hry L mi hL
   have hL6:=ata j l i L hJ mi hL
   cbv
   refine ⟨[(i:Int)],⟨by exact bp,b1,b2⟩,?_⟩
   cbv
   refine ⟨L,⟨⟨dV,hL⟩⟩,?_⟩
   cbv
   refine ⟨L,⟨by exact bp,hL6⟩,?_⟩
   cbv
   refine ⟨[L],⟨by exact bp,b3,b4⟩,?_⟩
   cbv
   exact ⟨i+1,by have bH:=e7;exact bh,by have fc:=n1;have sr:=n2;exact bh,⟨⟨bM,bZ⟩⟩⟩
  ·have K8:b=false:=h.out
   subst K8
   obtain ⟨n1,n2⟩:=HS mi
   cbv
   exact ⟨i+1,by have bH:=e7;exact bh,by have fc:=n1;have sr:=n2;exact bh,⟨⟨bM,bZ⟩⟩⟩
 have O6:l.length<=i:=aH
 obtain rfl:i=l.length:=by omega
 obtain ⟨f1,f2,f3,f4,f5,f6,f7,f8⟩:=hMF j l (Rf l.length) (Vf l.length) hJ cG hRe hVe
 obtain ⟨f11,f12,f13⟩:=f1
 have f1:(Rf l.length).length<=1000000/\(Rf l.length).Nodup/\∀r∈Rf l.length,2+(ins.length:Int)<=r:=⟨f11,f12,f13⟩
 obtain ⟨sg,Lc⟩:∃sg,eP ins.length (Rf l.length)=sg:=⟨_,rfl⟩
 rw [Lc] at f4 f5 f6
 obtain ⟨Cf,Lk⟩:∃Cf:Nat->List Cell,∀k,Cf k=((Rf l.length).take k).map λr=>(cellOf ins.length gs r (na ⟨LL,CC,FF⟩ r) sg).1:=⟨_,λ_=>rfl⟩
 obtain ⟨Df,Ll⟩:∃Df:Nat->List Int,∀k,Df k=(dr.take k).map λv=>(sg v).getD 0:=⟨_,λ_=>rfl⟩
 have hC0:[]=Cf 0:=by rw [Lk];rfl
 have hD0:[]=Df 0:=by rw [Ll];rfl
 have hCn:∀(k:Nat) (r:Int) (c:Cell) (e:Int) (L:List Int),(Rf l.length)[k]?=some r->na ⟨LL,CC,FF⟩ r=L->cellOf ins.length gs r L sg=(c,e)->Cf k++[c]=Cf (k+1):=λk r c e L h1 hL h2=>by
  rw [Lk,Lk,jR,h1,oQ,qe,iE,AD,hL,h2]
 have Lm:∀(k:Nat) (v t:Int),dr[k]?=some v->sg v=some t->Df k++[t]=Df (k+1):=λk v t h1 h2=>by
  rw [Ll,Ll,jR,h1,oQ,qe,iE,AD,h2];rfl
 have hCl:∀k,(Cf k).length<=k:=λk=>by rw [Lk,iR,iw];omega
 have hDl:∀k,(Df k).length<=k:=λk=>by rw [Ll,iR,iw];omega
 have hCe:∀k,(Rf l.length).length<=k->Cf k=mc:=λk hk=>by rw [Lk,iQ hk,<-f5,Lj]
 have hDe:∀k,dr.length<=k->Df k=md:=λk hk=>by rw [Ll,iQ hk,<-f6,zU]
 have hRr:Rf l.length=cr:=by rw [<-f7,hcr]
 have hVv:Vf l.length=cl:=by rw [<-f8,jC]
 have zG:∀(r:Int) (L:List Int),L.length<=1000000->2+(ins.length:Int)<=r->r < 2+(ins.length:Int)+gs.length->∃c e,O8 ⟨ins,gs,outs,dr⟩ r L sg c e/\cellOf ins.length gs r L sg=(c,e):=λr L h1 h2 h3=>⟨_,_,⟨G,h1,h2,h3,rfl⟩,rfl⟩
 have gB:ins.length<=1000000/\GD ins.length (Rf l.length):=⟨by omega,f11,f12,f13⟩
 clear h
 cbv
 refine Sat.freeze 9 rfl rfl ?_
 refine Sat.freeze 10 rfl rfl ?_
 refine Sat.j2 (aoD 0 0) ?_
 cbv
 refine ⟨⟨⟨ins,gs,outs,dr⟩,Rf l.length⟩,⟨by exact bp,gB⟩,?_⟩
 cbv
 refine Sat.oV 7 1 135 3 S1 wx rfl rfl ?_
 cbv
 refine Sat.oV 7 2 3 1 xN df rfl rfl ?_
 cbv
 refine Sat.dq (JQ 0 0) 13 15 [(.c 7 1,11),(.c 7 2,12)] (λk:Nat=>[(14,.mp (.int .i64) bP (λ_=>sg)),(88,.sl 1 bP (λ_=>Rf l.length)),(89,.i .i64 (λ_=>((Rf l.length).length:Int))),(90,.i .i64 (λ_=>(k:Int)))]) (λk=>[(11,.dyn 135 3 lN (λ_=>Cf k)),(12,.dyn 3 1 bP (λ_=>Df 0))]) (λk=>k<=(Rf l.length).length) (λk=>(Rf l.length).length - k) 0 (by have KY:=Lc;exact bh) (by have fc:=hC0;have sr:=hD0;exact bh) (cg _) ?_
 intro k hk
 have hk:k<=(Rf l.length).length:=hk
 have kL:=n0 k
 have jd:=dC (i:=k) (by omega)
 have BZ:=hCl k
 have b5:((Cf k).length+1)*40<=140737488355328:=by omega
 have b6:(Cf k).length+1<=9223372036854775807:=by omega
 have Ln:=hCn k
 have n8:=hCe k
 cbv
 refine ⟨λh=>?_,λh=>?_⟩
 ·have dG:k < (Rf l.length).length:=aH
  have bZ:(Rf l.length).length - (k+1) < (Rf l.length).length - k:=by omega
  refine (bO dG).elim λr hr=>?_
  obtain ⟨r1,r2,L,r3,r4,r5⟩:=f3 k r hr
  obtain ⟨c,ee,c1,c2⟩:=zG r L r4 r1 r2
  have hn:=Ln r c ee L hr r5 c2
  clear h
  cbv
  refine ⟨r,⟨kL,hr⟩,?_⟩
  cbv
  refine ⟨L,⟨kL,r3⟩,?_⟩
  cbv
  refine ⟨⟨⟨ins,gs,outs,dr⟩,r,L,sg,c,ee⟩,⟨by exact bp,c1⟩,?_⟩
  cbv
  refine ⟨[c],⟨by exact bp,b5,b6⟩,?_⟩
  cbv
  exact ⟨k+1,by have bH:=jd;exact bh,by have fc:=hn;exact bh,⟨⟨dG,bZ⟩⟩⟩
 have hkg:(Rf l.length).length<=k:=aH
 have n8:=n8 hkg
 clear h
 cbv
 refine Sat.dq (JQ 0 0) 13 15 [(.c 7 1,11),(.c 7 2,12)] (λq:Nat=>[(115,.sl 1 bP (λ_=>dr)),(116,.i .i64 (λ_=>(dr.length:Int))),(117,.i .i64 (λ_=>(q:Int)))]) (λq=>[(12,.dyn 3 1 bP (λ_=>Df q))]) (λq=>q<=dr.length) (λq=>dr.length - q) 0 (by exact aM) (by exact aM) (cg _) ?_
 intro q hq
 have hq:q<=dr.length:=hq
 have yx:=n0 q
 have ES:=dC (i:=q) (by omega)
 have hdq:=hDl q
 have b7:((Df q).length+1)*8<=140737488355328:=by omega
 have b8:(Df q).length+1<=9223372036854775807:=by omega
 have hdn:=Lm q
 have Lh:=hDe q
 cbv
 refine ⟨λh=>?_,λh=>?_⟩
 ·have yg:q < dr.length:=aH
  have bZ:dr.length - (q+1) < dr.length - q:=by omega
  refine (bO yg).elim λv hv=>?_
  obtain ⟨t,ht⟩:=f4 v (cB hv)
  have hn:=hdn v t hv ht
  clear h
  cbv
  refine ⟨v,⟨yx,hv⟩,?_⟩
  cbv
  refine ⟨some (some t),⟨ht⟩,?_⟩
  cbv
  refine ⟨[t],⟨by exact bp,b7,b8⟩,?_⟩
  cbv
  exact ⟨q+1,by have bH:=ES;exact bh,by have fc:=hn;exact bh,⟨⟨yg,bZ⟩⟩⟩
 have WB:dr.length<=q:=aH
 have Lh:=Lh WB
 clear h
 cbv
 exact ⟨by have gS:=hRr;have EG:=hVv;have HA:=n8;have HB:=Lh;have bH:=x9;have iY:=Ce;exact bX⟩
end Go.Proofs.Pk
