import Derived.Test.YthnhbemmlfaihaaR13
import Derived.Test.YthnhbemmlfaihaaR14
import Derived.Test.YthnhbemmlfaihaaR26
import Derived.Test.YthnhbemmlfaihaaR27
set_option linter.unusedVariables false
set_option linter.unusedSimpArgs false
set_option maxRecDepth 10000
set_option maxHeartbeats 64000000
namespace Go.Proofs.Pk
open Go Go.Vc
structure akf where
 n:Net
 m:dM
 c:jn
 e:Int
structure wC (n:Net) (m:dM) (c:jn) (e:Int):Prop where
 G:cI n.ins.length n.cg
 dr:∀d∈n.bf,0<=d/\d < 2+(n.ins.length:Int)+n.cg.length
 gy:n.bf.length<=1000000
 eq:mapM n.ins.length n.cg n.bf=(m,c,e)
@[reducible] noncomputable def O3:Vc.Spec where
 α:=akf
 args x:=[.agg (px x.n)]
 pre x:=wC x.n x.m x.c x.e
 res x:=.ca [.agg (yB x.m),.agg (Qj x.c),.i .i64 (λ_=>x.e)]
theorem Uw {I:Nat} {gs:List Gate} {s:dV} (h:lJ I gs s) {r:Nat} {l:List Int} (hr:2+I<=r) (hl:s.leaves[r]?=some l):l.length<=4:=by
 have hb:=(bh.1 hl).1
 rw [h.o0] at hb
 obtain ⟨g,hg⟩:=cy (l:=gs) (i:=r - 2 - I) (by omega)
 have:=h.lf (r - 2 - I) l g (by rw [show 2+I+(r - 2 - I)=r by omega];exact hl) hg
 split at this
 ·rw [this];have:=(zz g).2;omega
 ·exact this.2.1
structure Yl (I:Nat) (gs:List Gate) (s:dV) (dr:List Int) (R:List Int) (V:List (List Int)) (sg:Int->Option Int):Prop where
 ok:Cl I R
 vl:V.length=R.length
 at_:∀(k:Nat) r,R[k]?=some r->2+(I:Int)<=r/\r < 2+(I:Int)+gs.length/\∃L,V[k]?=some L/\L.length<=1000000/\jE s r=L
 Gi:∀v∈dr,∃t,sg v=some t
 cells:(jb I gs s dr).1.cells=R.map λr=>(cellOf I gs r (jE s r) sg).1
 bf:(jb I gs s dr).1.bf=dr.map λv=>(sg v).getD 0
 root:(jb I gs s dr).2.root=R
 leaves:(jb I gs s dr).2.leaves=V
theorem akg {I:Nat} {gs:List Gate} (G:cI I gs) {s:dV} (h:lJ I gs s) {dr:List Int} (hd:∀d∈dr,0<=d/\d < 2+(I:Int)+gs.length) {R:List Int} {V:List (List Int)} (hR:R=fN I s dr) (hV:V=(fN I s dr).map (jE s)) :
  Yl I gs s dr R V (eO I R):=by
 subst hR hV
 obtain ⟨r1,r2,r3,r4,r5⟩:=Lg G h hd
 have fB:(fN I s dr).Nodup:=r1.imp λh e=>by omega
 refine ⟨⟨?_,fB,λr hr=>(r2 r hr).1⟩,kF _,λk r hk=>?_,λv hv=>?_,rfl,rfl,rfl,rfl⟩
 ·have h2:((fN I s dr).map Int.toNat).Nodup:=by
   refine pY.2 ((LI.2 ⟨fB,SF (r:=λa b=>0<=a/\0<=b) λa ha b hb=>?_⟩).imp λ⟨a,b⟩=>by omega)
   have:=r2 a ha;have:=r2 b hb;omega
  have:=BI h2 (l₂:=List.range (2+I+gs.length)) λw hw=>by
   obtain ⟨u,hu,rfl⟩:=jW.1 hw
   have:=r2 u hu
   exact mB.2 (by omega)
  rw [kF,HF] at this
  have:=G.o9
  omega
 ·have hb:=r2 r (cN hk)
  refine ⟨hb.1,hb.2,jE s r,by rw [k7,hk];rfl,?_,rfl⟩
  unfold jE
  have hq:r.toNat < s.leaves.length:=by rw [h.o0];omega
  obtain ⟨l,hl⟩:=cy hq
  rw [List.getD_eq_getElem?_getD,hl,rT]
  have:=Uw h (by omega) hl
  omega
 ·refine Mt ?_
  have:=hd v hv
  by_cases oD:v < 2+(I:Int)
  ·exact .inl ⟨this.1,oD⟩
  ·exact .inr (r3 v hv (by omega))
noncomputable def akh (n m:Nat):Ctx:=cT n m [] [(20,JD)]
theorem agI (n m:Nat):CB PP (akh n m):=cW n m trivial ⟨NC,trivial⟩
noncomputable def cMa (n m:Nat):Ctx:=cT n m [(33,Try.f33)] [(32,OO),(34,Yk),(20,JD),(21,OQ)] [33] [] [20]
theorem Fb (n m:Nat):CB PP (cMa n m):=cW n m ⟨fo Try.func33,trivial⟩ ⟨V2,agH,NC,V6,trivial⟩
theorem Wm:dw (PP ()) 19 O3:=by
 refine fH (Fb 0 0) (fo Try.func19) (λa=>⟨uH a.n,trivial⟩) (λa=>⟨zL a.m,V7 a.c,trivial,trivial⟩) ?_
 rintro ⟨⟨ins,gs,outs,dr⟩,⟨mn,mc,md⟩,⟨cr,cl⟩,e⟩ hx
 obtain ⟨G,yP,vw,hm⟩:wC ⟨ins,gs,outs,dr⟩ ⟨mn,mc,md⟩ ⟨cr,cl⟩ e:=hx
 have G:cI ins.length gs:=G
 have yP:∀d∈dr,0<=d/\d < 2+(ins.length:Int)+gs.length:=yP
 have vw:dr.length<=1000000:=vw
 have hm:mapM ins.length gs dr=(⟨mn,mc,md⟩,⟨cr,cl⟩,e):=hm
 have hb:=G.o9
 obtain ⟨out,bV⟩:∃out,iS ins.length gs=out:=⟨_,rfl⟩
 have hlp:cI ins.length gs/\iS ins.length gs=out:=⟨G,bV⟩
 unfold mapM at hm
 rw [bV] at hm
 rcases out with _|⟨LL,CC,FF⟩
 ·obtain ⟨⟨rfl,rfl,rfl⟩,⟨rfl,rfl⟩,rfl⟩:(0=mn/\[]=mc/\[]=md)/\([]=cr/\[]=cl)/\2=e:=by simpa only [Prod.mk.injEq,dM.mk.injEq,jn.mk.injEq] using hm
  refine ⟨?_⟩
  cbv
  refine ⟨⟨⟨ins,gs,outs,dr⟩,none⟩,⟨by exact aY,hlp⟩,?_⟩
  cbv
  exact ⟨by ((try cbv)<;>((repeat' first|exact cM.nil|exact Le.refl _|refine cM.cons ?_ ?_|exact Le.ic rfl|exact Le.bc rfl|exact Le.i rfl|exact Le.b rfl|exact Le.sl rfl|exact Le.mp rfl|exact Le.fA rfl|exact Le.oq rfl|refine Le.cH rfl (λ_=>?_)|refine Le.dO rfl (λ_ _=>rfl) (λ_=>?_) ?_|refine Le.agg ?_|refine Le.ca ?_|refine Le.fn ?_ ?_|refine Le.dg ?_|exact trivial|refine And.intro ?_ ?_|refine λ_=>?_|exact Le.any _)))<;>first|exact .cH rfl (λx=>(BR x).1)|exact .cH rfl (λx=>(dv x).1)|exact .cH rfl (λx=>(qS x).1)⟩
 have hs:lJ ins.length gs ⟨LL,CC,FF⟩:=EL _ rfl G bV
 have A4:LL.length=2+ins.length+gs.length:=hs.len
 have hFl:FF.length=2+ins.length+gs.length:=hs.o0
 have qt:0<=((LL.length:Nat):Int)/\((LL.length:Nat):Int)<=((LL.length:Nat):Int)/\((1:Nat):Int)*((LL.length:Nat):Int)<=281474976710656/\((LL.length:Nat):Int)<=9223372036854775807:=by omega
 have JJ:List.replicate ((LL.length:Nat):Int).toNat false=List.replicate LL.length false:=by rw [jC]
 have aki:∀(l:List Bool) (x:Int),l.length=LL.length->x∈dr->JI ⟨ins,gs,outs,dr⟩ ⟨LL,CC,FF⟩ l x/\x.toNat<=x.toNat:=λl x hl hx=>⟨⟨G,hs,hl.trans A4,(yP x hx).1,(yP x hx).2⟩,fT _⟩
 have agJ:∀(j:Nat) (l:List Bool),rC ins.length ⟨LL,CC,FF⟩ dr LL.length j l->dr.length<=j->oP l l.length=fN ins.length ⟨LL,CC,FF⟩ dr:=λj l h hj=>abA (fT _) (rC.fin G hs (by rw [<-A4];exact h) hj yP)
 have hMF:∀(j:Nat) (l:List Bool) (R:List Int) (V:List (List Int)),rC ins.length ⟨LL,CC,FF⟩ dr LL.length j l->dr.length<=j->R=fN ins.length ⟨LL,CC,FF⟩ dr->V=(fN ins.length ⟨LL,CC,FF⟩ dr).map (jE ⟨LL,CC,FF⟩)->Yl ins.length gs ⟨LL,CC,FF⟩ dr R V (eO ins.length R):=λj l R V h hj hR hV=>akg G hs yP hR hV
 obtain ⟨MO,Ds⟩:∃MO,jb ins.length gs ⟨LL,CC,FF⟩ dr=MO:=⟨_,rfl⟩
 have u9:(MO.1,MO.2,(0:Int))=((⟨mn,mc,md⟩:dM),(⟨cr,cl⟩:jn),e):=by rw [<-Ds];exact hm
 simp only [Prod.mk.injEq] at u9
 obtain ⟨yJ,oE,yW⟩:=u9
 have GA:(jb ins.length gs ⟨LL,CC,FF⟩ dr).1.cells=mc:=by rw [Ds,yJ]
 have A5:(jb ins.length gs ⟨LL,CC,FF⟩ dr).1.bf=md:=by rw [Ds,yJ]
 have va:(ins.length:Int)=mn:=by
    have h:(jb ins.length gs ⟨LL,CC,FF⟩ dr).1.n=mn:=by rw [Ds,yJ]
    exact h
 have hcr:(jb ins.length gs ⟨LL,CC,FF⟩ dr).2.root=cr:=by rw [Ds,oE]
 have jK:(jb ins.length gs ⟨LL,CC,FF⟩ dr).2.leaves=cl:=by rw [Ds,oE]
 have akj:∀(j:Nat) (l:List Bool) (i:Nat) (L:List Int),rC ins.length ⟨LL,CC,FF⟩ dr LL.length j l->l[i]?=some true->FF[i]?=some L->L.length<=1000000:=λj l i L h hi hL=>by
  have:=Uw hs (h.nw i hi).1 hL;omega
 refine ⟨?_⟩
 cbv
 refine ⟨⟨⟨ins,gs,outs,dr⟩,some ⟨LL,CC,FF⟩⟩,⟨by exact aY,hlp⟩,?_⟩
 cbv
 refine ⟨⟨qt⟩,?_⟩
 refine Sat.eI (Fb 0 0) 7 9 [] (λy:Nat × List Bool=>[(39,.sl 1 bK (λ_=>dr)),(40,.i .i64 (λ_=>(dr.length:Int))),(41,.i .i64 (λ_=>(y.1:Int)))]) (λy=>[(4,.dyn 4 1 pr (λ_=>y.2))]) (λy=>rC ins.length ⟨LL,CC,FF⟩ dr LL.length y.1 y.2) (λy=>dr.length - y.1) (0,List.replicate LL.length false) (by exact aX) (by have eu:=JJ;exact bp) (.start _ _ _ _) ?_
 rintro ⟨j,l⟩ hJ
 have hJ:rC ins.length ⟨LL,CC,FF⟩ dr LL.length j l:=hJ
 have e8:=hJ.le
 have kC:=hJ.len
 have mi:=n0 j
 have pb:=eU (i:=j) (by omega)
 cbv
 refine ⟨λh=>?_,λh=>?_⟩
 ·have FJ:j < dr.length:=aJ
  have cD:dr.length - (j+1) < dr.length - j:=by omega
  refine (cy FJ).elim λx hx=>?_
  have dU:=aki l x kC (cN hx)
  clear h
  cbv
  refine ⟨x,⟨mi,hx⟩,?_⟩
  cbv
  refine iP.ue (Xh x.toNat) (λa y=>trivial) ⟨⟨ins,gs,outs,dr⟩,⟨LL,CC,FF⟩,l,x⟩ [0,5,4,3,6] rfl (by exact aY) (by exact aX) ⟨dU⟩ λy hy=>?_
  have b9:=hJ.step hx hy.out
  cbv
  exact ⟨(j+1,y),by have bI:=pb;exact bp,by exact aX,⟨⟨b9,cD⟩⟩⟩
 have cf:dr.length<=j:=aJ
 have hRm:=agJ j l hJ cf
 have hwf:l.length=2+ins.length+gs.length:=kC.trans A4
 obtain ⟨Rf,mT⟩:∃Rf:Nat->List Int,∀i,Rf i=oP l i:=⟨_,λ_=>rfl⟩
 obtain ⟨Vf,A6⟩:∃Vf:Nat->List (List Int),∀i,Vf i=(oP l i).map (jE ⟨LL,CC,FF⟩):=⟨_,λ_=>rfl⟩
 have Di:[]=Rf 0:=by rw [mT];rfl
 have hV0:[]=Vf 0:=by rw [A6];rfl
 have hRy:∀(i:Nat) L,l[i]?=some true->FF[i]?=some L->Rf i++[(i:Int)]=Rf (i+1)/\Vf i++[L]=Vf (i+1):=λi L h hL=>by
  rw [mT,mT,A6,A6,abY h,vS,gS,HK]
  refine ⟨rfl,?_⟩
  unfold jE
  rw [jC,List.getD_eq_getElem?_getD]
  show _++[L]=_++[(FF[i]?).getD []]
  rw [hL];rfl
 have AX:∀i:Nat,l[i]?=some false->Rf i=Rf (i+1)/\Vf i=Vf (i+1):=λi h=>by
  rw [mT,mT,A6,A6,acu h];exact ⟨rfl,rfl⟩
 have wY:∀i,(Rf i).length<=i/\(Vf i).length<=i:=λi=>by
  rw [mT,A6,kF];exact ⟨R9 l i,R9 l i⟩
 have hRe:Rf l.length=fN ins.length ⟨LL,CC,FF⟩ dr:=by rw [mT];exact hRm
 have hVe:Vf l.length=(fN ins.length ⟨LL,CC,FF⟩ dr).map (jE ⟨LL,CC,FF⟩):=by rw [A6,hRm]
 clear h
 cbv
 refine Sat.qd 8 0 3 1 zS dv rfl rfl ?_
 cbv
 refine Sat.qd 8 1 32 1 M8 qS rfl rfl ?_
 cbv
 refine Sat.eI (Fb 0 0) 11 13 [(.c 8 0,9),(.c 8 1,10)] (λi:Nat=>[(55,.i .i64 (λ_=>(l.length:Int))),(56,.i .i64 (λ_=>(i:Int)))]) (λi=>[(8,.fix 41 [.own 9,.own 10]),(9,.dyn 3 1 bK (λ_=>Rf i)),(10,.dyn 32 1 fP (λ_=>Vf i))]) (λi=>i<=l.length) (λi=>l.length - i) 0 (by exact aX) (by have eu:=Di;have pI:=hV0;exact bp) (cP _) ?_
 intro i hi
 have hi:i<=l.length:=hi
 have dY:=n0 i
 have gH:=eU (i:=i) (by omega)
 obtain ⟨vv,J0⟩:=wY i
 have b1:((Rf i).length+1)*8<=140737488355328:=by omega
 have b2:(Rf i).length+1<=9223372036854775807:=by omega
 have b3:((Vf i).length+1)*24<=140737488355328:=by omega
 have b4:(Vf i).length+1<=9223372036854775807:=by omega
 have hry:=hRy i
 have Kx:=AX i
 cbv
 refine ⟨λh=>?_,λh=>?_⟩
 ·have bU:i < l.length:=aJ
  have cD:l.length - (i+1) < l.length - i:=by omega
  refine (cy bU).elim λb oI=>?_
  have hif:i < FF.length:=by omega
  refine (cy hif).elim λL hL=>?_
  clear h
  cbv
  refine ⟨⟨⟨dY,bU⟩⟩,?_⟩
  cbv
  refine ⟨b,⟨oI,rfl⟩,?_⟩
  cbv
  refine ⟨λh=>?_,λh=>?_⟩
  ·have rA:b=true:=h.out
   subst rA
   obtain ⟨n1,n2⟩:=hry L oI hL
   have hL6:=akj j l i L hJ oI hL
   cbv
   refine ⟨[(i:Int)],⟨by exact aY,b1,b2⟩,?_⟩
   cbv
   refine ⟨L,⟨⟨dY,hL⟩⟩,?_⟩
   cbv
   refine ⟨L,⟨by exact aY,hL6⟩,?_⟩
   cbv
   refine ⟨[L],⟨by exact aY,b3,b4⟩,?_⟩
   cbv
   exact ⟨i+1,by have bI:=gH;exact bp,by have eu:=n1;have pI:=n2;exact bp,⟨⟨bU,cD⟩⟩⟩
  ·have Qe:b=false:=h.out
   subst Qe
   obtain ⟨n1,n2⟩:=Kx oI
   cbv
   exact ⟨i+1,by have bI:=gH;exact bp,by have eu:=n1;have pI:=n2;exact bp,⟨⟨bU,cD⟩⟩⟩
 have JF:l.length<=i:=aJ
 obtain rfl:i=l.length:=by omega
 obtain ⟨f1,f2,f3,f4,f5,f6,f7,f8⟩:=hMF j l (Rf l.length) (Vf l.length) hJ cf hRe hVe
 obtain ⟨f11,f12,f13⟩:=f1
 have f1:(Rf l.length).length<=1000000/\(Rf l.length).Nodup/\∀r∈Rf l.length,2+(ins.length:Int)<=r:=⟨f11,f12,f13⟩
 obtain ⟨sg,Gu⟩:∃sg,eO ins.length (Rf l.length)=sg:=⟨_,rfl⟩
 rw [Gu] at f4 f5 f6
 obtain ⟨Cf,GB⟩:∃Cf:Nat->List Cell,∀k,Cf k=((Rf l.length).take k).map λr=>(cellOf ins.length gs r (jE ⟨LL,CC,FF⟩ r) sg).1:=⟨_,λ_=>rfl⟩
 obtain ⟨Df,GC⟩:∃Df:Nat->List Int,∀k,Df k=(dr.take k).map λv=>(sg v).getD 0:=⟨_,λ_=>rfl⟩
 have hC0:[]=Cf 0:=by rw [GB];rfl
 have hD0:[]=Df 0:=by rw [GC];rfl
 have hCn:∀(k:Nat) (r:Int) (c:Cell) (e:Int) (L:List Int),(Rf l.length)[k]?=some r->jE ⟨LL,CC,FF⟩ r=L->cellOf ins.length gs r L sg=(c,e)->Cf k++[c]=Cf (k+1):=λk r c e L h1 hL h2=>by
  rw [GB,GB,ju,h1,nX,vS,gS,HK,hL,h2]
 have hDn:∀(k:Nat) (v t:Int),dr[k]?=some v->sg v=some t->Df k++[t]=Df (k+1):=λk v t h1 h2=>by
  rw [GC,GC,ju,h1,nX,vS,gS,HK,h2];rfl
 have Z5:∀k,(Cf k).length<=k:=λk=>by rw [GB,kF,jv];omega
 have hDl:∀k,(Df k).length<=k:=λk=>by rw [GC,kF,jv];omega
 have hCe:∀k,(Rf l.length).length<=k->Cf k=mc:=λk hk=>by rw [GB,jt hk,<-f5,GA]
 have hDe:∀k,dr.length<=k->Df k=md:=λk hk=>by rw [GC,jt hk,<-f6,A5]
 have hRr:Rf l.length=cr:=by rw [<-f7,hcr]
 have hVv:Vf l.length=cl:=by rw [<-f8,jK]
 have wL:∀(r:Int) (L:List Int),L.length<=1000000->2+(ins.length:Int)<=r->r < 2+(ins.length:Int)+gs.length->∃c e,JH ⟨ins,gs,outs,dr⟩ r L sg c e/\cellOf ins.length gs r L sg=(c,e):=λr L h1 h2 h3=>⟨_,_,⟨G,h1,h2,h3,rfl⟩,rfl⟩
 have fx:ins.length<=1000000/\Cl ins.length (Rf l.length):=⟨by omega,f11,f12,f13⟩
 clear h
 cbv
 refine Sat.freeze 9 rfl rfl ?_
 refine Sat.freeze 10 rfl rfl ?_
 refine Sat.jN (agI 0 0) ?_
 cbv
 refine ⟨⟨⟨ins,gs,outs,dr⟩,Rf l.length⟩,⟨by exact aY,fx⟩,?_⟩
 cbv
 refine Sat.qd 7 1 57 3 Vb BR rfl rfl ?_
 cbv
 refine Sat.qd 7 2 3 1 zS dv rfl rfl ?_
 cbv
 refine Sat.eI (Fb 0 0) 13 15 [(.c 7 1,11),(.c 7 2,12)] (λk:Nat=>[(14,.mp (.int .i64) bK (λ_=>sg)),(88,.sl 1 bK (λ_=>Rf l.length)),(89,.i .i64 (λ_=>((Rf l.length).length:Int))),(90,.i .i64 (λ_=>(k:Int)))]) (λk=>[(11,.dyn 57 3 lK (λ_=>Cf k)),(12,.dyn 3 1 bK (λ_=>Df 0))]) (λk=>k<=(Rf l.length).length) (λk=>(Rf l.length).length - k) 0 (by have Gg:=Gu;exact bp) (by have eu:=hC0;have pI:=hD0;exact bp) (cP _) ?_
 intro k hk
 have hk:k<=(Rf l.length).length:=hk
 have sI:=n0 k
 have kR:=eU (i:=k) (by omega)
 have AR:=Z5 k
 have b5:((Cf k).length+1)*40<=140737488355328:=by omega
 have b6:(Cf k).length+1<=9223372036854775807:=by omega
 have GD:=hCn k
 have nJ:=hCe k
 cbv
 refine ⟨λh=>?_,λh=>?_⟩
 ·have dP:k < (Rf l.length).length:=aJ
  have cD:(Rf l.length).length - (k+1) < (Rf l.length).length - k:=by omega
  refine (cy dP).elim λr hr=>?_
  obtain ⟨r1,r2,L,r3,r4,r5⟩:=f3 k r hr
  obtain ⟨c,ee,c1,c2⟩:=wL r L r4 r1 r2
  have hn:=GD r c ee L hr r5 c2
  clear h
  cbv
  refine ⟨r,⟨sI,hr⟩,?_⟩
  cbv
  refine ⟨L,⟨sI,r3⟩,?_⟩
  cbv
  refine ⟨⟨⟨ins,gs,outs,dr⟩,r,L,sg,c,ee⟩,⟨by exact aY,c1⟩,?_⟩
  cbv
  refine ⟨[c],⟨by exact aY,b5,b6⟩,?_⟩
  cbv
  exact ⟨k+1,by have bI:=kR;exact bp,by have eu:=hn;exact bp,⟨⟨dP,cD⟩⟩⟩
 have hkg:(Rf l.length).length<=k:=aJ
 have nJ:=nJ hkg
 clear h
 cbv
 refine Sat.eI (Fb 0 0) 13 15 [(.c 7 1,11),(.c 7 2,12)] (λq:Nat=>[(115,.sl 1 bK (λ_=>dr)),(116,.i .i64 (λ_=>(dr.length:Int))),(117,.i .i64 (λ_=>(q:Int)))]) (λq=>[(12,.dyn 3 1 bK (λ_=>Df q))]) (λq=>q<=dr.length) (λq=>dr.length - q) 0 (by exact aX) (by exact aX) (cP _) ?_
 intro q hq
 have hq:q<=dr.length:=hq
 have vy:=n0 q
 have Gy:=eU (i:=q) (by omega)
 have hdq:=hDl q
 have b7:((Df q).length+1)*8<=140737488355328:=by omega
 have b8:(Df q).length+1<=9223372036854775807:=by omega
 have hdn:=hDn q
 have Gz:=hDe q
 cbv
 refine ⟨λh=>?_,λh=>?_⟩
 ·have vh:q < dr.length:=aJ
  have cD:dr.length - (q+1) < dr.length - q:=by omega
  refine (cy vh).elim λv hv=>?_
  obtain ⟨t,ht⟩:=f4 v (cN hv)
  have hn:=hdn v t hv ht
  clear h
  cbv
  refine ⟨v,⟨vy,hv⟩,?_⟩
  cbv
  refine ⟨some (some t),⟨ht⟩,?_⟩
  cbv
  refine ⟨[t],⟨by exact aY,b7,b8⟩,?_⟩
  cbv
  exact ⟨q+1,by have bI:=Gy;exact bp,by have eu:=hn;exact bp,⟨⟨vh,cD⟩⟩⟩
 have Qr:dr.length<=q:=aJ
 have Gz:=Gz Qr
 clear h
 cbv
 exact ⟨by have gM:=hRr;have AS:=hVv;have C9:=nJ;have Da:=Gz;have bI:=va;have gP:=yW;exact bN⟩
end Go.Proofs.Pk
