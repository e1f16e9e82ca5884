import Derived.Test.YthnhbemmlfaihaaGreatA13
import Derived.Test.YthnhbemmlfaihaaGreatA14
import Derived.Test.YthnhbemmlfaihaaGreatA26
import Derived.Test.YthnhbemmlfaihaaGreatA27
set_option linter.unusedVariables false
set_option linter.unusedSimpArgs false
set_option maxRecDepth 10000
set_option maxHeartbeats 64000000
namespace Go.Proofs.Pk
open Go Go.Vc
structure ajK where
 n:Net
 m:ea
 c:kA
 e:Int
structure Ab (n:Net) (m:ea) (c:kA) (e:Int):Prop where
 G:cC n.ins.length n.cq
 dr:∀d∈n.bA,0<=d/\d < 2+(n.ins.length:Int)+n.cq.length
 gY:n.bA.length<=1000000
 eq:mapM n.ins.length n.cq n.bA=(m,c,e)
@[reducible] noncomputable def OD:Vc.Spec where
 α:=ajK
 args x:=[.agg (oj x.n)]
 pre x:=Ab x.n x.m x.c x.e
 res x:=.cd [.agg (wa x.m),.agg (PX x.c),.i .i64 (λ_=>x.e)]
theorem T8 {I:Nat} {gs:List Gate} {s:dW} (h:lX I gs s) {r:Nat} {l:List Int} (hr:2+I<=r) (hl:s.leaves[r]?=some l):l.length<=4:=by
 have hb:=(bf.1 hl).1
 rw [h.oN] at hb
 obtain ⟨g,hg⟩:=cg (l:=gs) (i:=r - 2 - I) (by omega)
 have:=h.lf (r - 2 - I) l g (by rw [show 2+I+(r - 2 - I)=r by omega];exact hl) hg
 split at this
 ·rw [this];have:=(vI g).2;omega
 ·exact this.2.1
structure XY (I:Nat) (gs:List Gate) (s:dW) (dr:List Int) (R:List Int) (V:List (List Int)) (sg:Int->Option Int):Prop where
 ok:B1 I R
 vl:V.length=R.length
 at_:∀(k:Nat) r,R[k]?=some r->2+(I:Int)<=r/\r < 2+(I:Int)+gs.length/\∃L,V[k]?=some L/\L.length<=1000000/\kU s r=L
 PA:∀v∈dr,∃t,sg v=some t
 cells:(lW I gs s dr).1.cells=R.map λr=>(cellOf I gs r (kU s r) sg).1
 bA:(lW I gs s dr).1.bA=dr.map λv=>(sg v).getD 0
 root:(lW I gs s dr).2.root=R
 leaves:(lW I gs s dr).2.leaves=V
theorem ajL {I:Nat} {gs:List Gate} (G:cC I gs) {s:dW} (h:lX I gs s) {dr:List Int} (hd:∀d∈dr,0<=d/\d < 2+(I:Int)+gs.length) {R:List Int} {V:List (List Int)} (hR:R=jo I s dr) (hV:V=(jo I s dr).map (kU s)) :
  XY I gs s dr R V (fU I R):=by
 subst hR hV
 obtain ⟨r1,r2,r3,r4,r5⟩:=Ry G h hd
 have ff:(jo I s dr).Nodup:=r1.imp λh e=>by omega
 refine ⟨⟨?_,ff,λr hr=>(r2 r hr).1⟩,jQ _,λk r hk=>?_,λv hv=>?_,rfl,rfl,rfl,rfl⟩
 ·have h2:((jo I s dr).map Int.toNat).Nodup:=by
   refine pM.2 ((Ll.2 ⟨ff,Sa (r:=λa b=>0<=a/\0<=b) λa ha b hb=>?_⟩).imp λ⟨a,b⟩=>by omega)
   have:=r2 a ha;have:=r2 b hb;omega
  have:=Bm h2 (l₂:=List.range (2+I+gs.length)) λw hw=>by
   obtain ⟨u,hu,rfl⟩:=jw.1 hw
   have:=r2 u hu
   exact mr.2 (by omega)
  rw [jQ,Hk] at this
  have:=G.mK
  omega
 ·have hb:=r2 r (cM hk)
  refine ⟨hb.1,hb.2,kU s r,by rw [kB,hk];rfl,?_,rfl⟩
  unfold kU
  have hq:r.toNat < s.leaves.length:=by rw [h.oN];omega
  obtain ⟨l,hl⟩:=cg hq
  rw [List.getD_eq_getElem?_getD,hl,rJ]
  have:=T8 h (by omega) hl
  omega
 ·refine L7 ?_
  have:=hd v hv
  by_cases om:v < 2+(I:Int)
  ·exact .inl ⟨this.1,om⟩
  ·exact .inr (r3 v hv (by omega))
noncomputable def ajM (n m:Nat):Ctx:=cW n m [] [(115,Jr)]
theorem agm (n m:Nat):CB PP (ajM n m):=cZ n m trivial ⟨M8,trivial⟩
noncomputable def cMa (n m:Nat):Ctx:=cW n m [(182,Tryz.f182)] [(181,Om),(146,XX),(115,Jr),(116,Oo)] [182] [] [20]
theorem EK (n m:Nat):CB PP (cMa n m):=cZ n m ⟨fo Tryz.func182,trivial⟩ ⟨VF,agl,M8,VI,trivial⟩
theorem VY:cY (PP ()) 104 OD:=by
 refine e6 (EK 0 0) (fo Tryz.func104) (λa=>⟨rQ a.n,trivial⟩) (λa=>⟨xu a.m,VJ a.c,trivial,trivial⟩) ?_
 rintro ⟨⟨ins,gs,outs,dr⟩,⟨mn,mc,md⟩,⟨cr,cl⟩,e⟩ hx
 obtain ⟨G,sI,tU,hm⟩:Ab ⟨ins,gs,outs,dr⟩ ⟨mn,mc,md⟩ ⟨cr,cl⟩ e:=hx
 have G:cC ins.length gs:=G
 have sI:∀d∈dr,0<=d/\d < 2+(ins.length:Int)+gs.length:=sI
 have tU:dr.length<=1000000:=tU
 have hm:mapM ins.length gs dr=(⟨mn,mc,md⟩,⟨cr,cl⟩,e):=hm
 have hb:=G.mK
 obtain ⟨out,di⟩:∃out,iZ ins.length gs=out:=⟨_,rfl⟩
 have Z4:cC ins.length gs/\iZ ins.length gs=out:=⟨G,di⟩
 unfold mapM at hm
 rw [di] at hm
 rcases out with _|⟨LL,CC,FF⟩
 ·obtain ⟨⟨rfl,rfl,rfl⟩,⟨rfl,rfl⟩,rfl⟩:(0=mn/\[]=mc/\[]=md)/\([]=cr/\[]=cl)/\2=e:=by simpa only [Prod.mk.injEq,ea.mk.injEq,kA.mk.injEq] using hm
  refine ⟨?_⟩
  cbv
  refine ⟨⟨⟨ins,gs,outs,dr⟩,none⟩,⟨by exact a8,Z4⟩,?_⟩
  cbv
  exact ⟨by ((try cbv)<;>((repeat' first|exact cO.nil|exact Le.refl _|refine cO.cons ?_ ?_|exact Le.ic rfl|exact Le.bc rfl|exact Le.i rfl|exact Le.b rfl|exact Le.sl rfl|exact Le.mp rfl|exact Le.fC rfl|exact Le.nX rfl|refine Le.cG rfl (λ_=>?_)|refine Le.dK rfl (λ_ _=>rfl) (λ_=>?_) ?_|refine Le.agg ?_|refine Le.cd ?_|refine Le.fn ?_ ?_|refine Le.db ?_|exact trivial|refine And.intro ?_ ?_|refine λ_=>?_|exact Le.any _)))<;>first|exact .cG rfl (λx=>(Bz x).1)|exact .cG rfl (λx=>(dq x).1)|exact .cG rfl (λx=>(qJ x).1)⟩
 have hs:lX ins.length gs ⟨LL,CC,FF⟩:=HQ _ rfl G di
 have AK:LL.length=2+ins.length+gs.length:=hs.len
 have hFl:FF.length=2+ins.length+gs.length:=hs.oN
 have oU:0<=((LL.length:Nat):Int)/\((LL.length:Nat):Int)<=((LL.length:Nat):Int)/\((1:Nat):Int)*((LL.length:Nat):Int)<=281474976710656/\((LL.length:Nat):Int)<=9223372036854775807:=by omega
 have Jy:List.replicate ((LL.length:Nat):Int).toNat false=List.replicate LL.length false:=by rw [iS]
 have ajN:∀(l:List Bool) (x:Int),l.length=LL.length->x∈dr->Jx ⟨ins,gs,outs,dr⟩ ⟨LL,CC,FF⟩ l x/\x.toNat<=x.toNat:=λl x hl hx=>⟨⟨G,hs,hl.trans AK,(sI x hx).1,(sI x hx).2⟩,fN _⟩
 have agn:∀(j:Nat) (l:List Bool),ri ins.length ⟨LL,CC,FF⟩ dr LL.length j l->dr.length<=j->oE l l.length=jo ins.length ⟨LL,CC,FF⟩ dr:=λj l h hj=>aba (fN _) (ri.fin G hs (by rw [<-AK];exact h) hj sI)
 have hMF:∀(j:Nat) (l:List Bool) (R:List Int) (V:List (List Int)),ri ins.length ⟨LL,CC,FF⟩ dr LL.length j l->dr.length<=j->R=jo ins.length ⟨LL,CC,FF⟩ dr->V=(jo ins.length ⟨LL,CC,FF⟩ dr).map (kU ⟨LL,CC,FF⟩)->XY ins.length gs ⟨LL,CC,FF⟩ dr R V (fU ins.length R):=λj l R V h hj hR hV=>ajL G hs sI hR hV
 obtain ⟨MO,C2⟩:∃MO,lW ins.length gs ⟨LL,CC,FF⟩ dr=MO:=⟨_,rfl⟩
 have uT:(MO.1,MO.2,(0:Int))=((⟨mn,mc,md⟩:ea),(⟨cr,cl⟩:kA),e):=by rw [<-C2];exact hm
 simp only [Prod.mk.injEq] at uT
 obtain ⟨x7,ot,yo⟩:=uT
 have hmc:(lW ins.length gs ⟨LL,CC,FF⟩ dr).1.cells=mc:=by rw [C2,x7]
 have hmd:(lW ins.length gs ⟨LL,CC,FF⟩ dr).1.bA=md:=by rw [C2,x7]
 have uU:(ins.length:Int)=mn:=by
    have h:(lW ins.length gs ⟨LL,CC,FF⟩ dr).1.n=mn:=by rw [C2,x7]
    exact h
 have hcr:(lW ins.length gs ⟨LL,CC,FF⟩ dr).2.root=cr:=by rw [C2,ot]
 have j3:(lW ins.length gs ⟨LL,CC,FF⟩ dr).2.leaves=cl:=by rw [C2,ot]
 have ajO:∀(j:Nat) (l:List Bool) (i:Nat) (L:List Int),ri ins.length ⟨LL,CC,FF⟩ dr LL.length j l->l[i]?=some true->FF[i]?=some L->L.length<=1000000:=λj l i L h hi hL=>by
  have:=T8 hs (h.nw i hi).1 hL;omega
 refine ⟨?_⟩
 cbv
 refine ⟨⟨⟨ins,gs,outs,dr⟩,some ⟨LL,CC,FF⟩⟩,⟨by exact a8,Z4⟩,?_⟩
 cbv
 refine ⟨⟨oU⟩,?_⟩
 refine Sat.dP (EK 0 0) 7 9 [] (λy:Nat × List Bool=>[(39,.sl 1 bJ (λ_=>dr)),(40,.i .i64 (λ_=>(dr.length:Int))),(41,.i .i64 (λ_=>(y.1:Int)))]) (λy=>[(4,.dyn 4 1 pe (λ_=>y.2))]) (λy=>ri ins.length ⟨LL,CC,FF⟩ dr LL.length y.1 y.2) (λy=>dr.length - y.1) (0,List.replicate LL.length false) (by exact aW) (by have eH:=Jy;exact bq) (.start _ _ _ _) ?_
 rintro ⟨j,l⟩ hJ
 have hJ:ri ins.length ⟨LL,CC,FF⟩ dr LL.length j l:=hJ
 have ei:=hJ.le
 have l9:=hJ.len
 have jg:=n0 j
 have lg:=eh (i:=j) (by omega)
 cbv
 refine ⟨λh=>?_,λh=>?_⟩
 ·have Fk:j < dr.length:=aG
  have cf:dr.length - (j+1) < dr.length - j:=by omega
  refine (cg Fk).elim λx hx=>?_
  have dR:=ajN l x l9 (cM hx)
  clear h
  cbv
  refine ⟨x,⟨jg,hx⟩,?_⟩
  cbv
  refine iW.tP (WU x.toNat) (λa y=>trivial) ⟨⟨ins,gs,outs,dr⟩,⟨LL,CC,FF⟩,l,x⟩ [0,5,4,3,6] rfl (by exact a8) (by exact aW) ⟨dR⟩ λy hy=>?_
  have cb:=hJ.step hx hy.out
  cbv
  exact ⟨(j+1,y),by have bK:=lg;exact bq,by exact aW,⟨⟨cb,cf⟩⟩⟩
 have bV:dr.length<=j:=aG
 have Z5:=agn j l hJ bV
 have hwf:l.length=2+ins.length+gs.length:=l9.trans AK
 obtain ⟨Rf,mM⟩:∃Rf:Nat->List Int,∀i,Rf i=oE l i:=⟨_,λ_=>rfl⟩
 obtain ⟨Vf,AL⟩:∃Vf:Nat->List (List Int),∀i,Vf i=(oE l i).map (kU ⟨LL,CC,FF⟩):=⟨_,λ_=>rfl⟩
 have CW:[]=Rf 0:=by rw [mM];rfl
 have hV0:[]=Vf 0:=by rw [AL];rfl
 have hRy:∀(i:Nat) L,l[i]?=some true->FF[i]?=some L->Rf i++[(i:Int)]=Rf (i+1)/\Vf i++[L]=Vf (i+1):=λi L h hL=>by
  rw [mM,mM,AL,AL,aby h,vC,ig,Hq]
  refine ⟨rfl,?_⟩
  unfold kU
  rw [iS,List.getD_eq_getElem?_getD]
  show _++[L]=_++[(FF[i]?).getD []]
  rw [hL];rfl
 have AA:∀i:Nat,l[i]?=some false->Rf i=Rf (i+1)/\Vf i=Vf (i+1):=λi h=>by
  rw [mM,mM,AL,AL,ab0 h];exact ⟨rfl,rfl⟩
 have F6:∀i,(Rf i).length<=i/\(Vf i).length<=i:=λi=>by
  rw [mM,AL,jQ];exact ⟨RE l i,RE l i⟩
 have hRe:Rf l.length=jo ins.length ⟨LL,CC,FF⟩ dr:=by rw [mM];exact Z5
 have hVe:Vf l.length=(jo ins.length ⟨LL,CC,FF⟩ dr).map (kU ⟨LL,CC,FF⟩):=by rw [AL,Z5]
 clear h
 cbv
 refine Sat.pR 8 0 3 1 zr dq rfl rfl ?_
 cbv
 refine Sat.pR 8 1 35 1 MJ qJ rfl rfl ?_
 cbv
 refine Sat.dP (EK 0 0) 11 13 [(.c 8 0,9),(.c 8 1,10)] (λi:Nat=>[(55,.i .i64 (λ_=>(l.length:Int))),(56,.i .i64 (λ_=>(i:Int)))]) (λi=>[(8,.fix 92 [.own 9,.own 10]),(9,.dyn 3 1 bJ (λ_=>Rf i)),(10,.dyn 35 1 fT (λ_=>Vf i))]) (λi=>i<=l.length) (λi=>l.length - i) 0 (by exact aW) (by have eH:=CW;have pz:=hV0;exact bq) (cI _) ?_
 intro i hi
 have hi:i<=l.length:=hi
 have dv:=n0 i
 have eW:=eh (i:=i) (by omega)
 obtain ⟨yp,Ys⟩:=F6 i
 have b1:((Rf i).length+1)*8<=140737488355328:=by omega
 have b2:(Rf i).length+1<=9223372036854775807:=by omega
 have b3:((Vf i).length+1)*24<=140737488355328:=by omega
 have b4:(Vf i).length+1<=9223372036854775807:=by omega
 have hry:=hRy i
 have Kg:=AA i
 cbv
 refine ⟨λh=>?_,λh=>?_⟩
 ·have bO:i < l.length:=aG
  have cf:l.length - (i+1) < l.length - i:=by omega
  refine (cg bO).elim λb oz=>?_
  have hif:i < FF.length:=by omega
  refine (cg hif).elim λL hL=>?_
  clear h
  cbv
  refine ⟨⟨⟨dv,bO⟩⟩,?_⟩
  cbv
  refine ⟨b,⟨oz,rfl⟩,?_⟩
  cbv
  refine ⟨λh=>?_,λh=>?_⟩
  ·have rh:b=true:=h.out
   subst rh
   obtain ⟨n1,n2⟩:=hry L oz hL
   have hL6:=ajO j l i L hJ oz hL
   cbv
   refine ⟨[(i:Int)],⟨by exact a8,b1,b2⟩,?_⟩
   cbv
   refine ⟨L,⟨⟨dv,hL⟩⟩,?_⟩
   cbv
   refine ⟨L,⟨by exact a8,hL6⟩,?_⟩
   cbv
   refine ⟨[L],⟨by exact a8,b3,b4⟩,?_⟩
   cbv
   exact ⟨i+1,by have bK:=eW;exact bq,by have eH:=n1;have pz:=n2;exact bq,⟨⟨bO,cf⟩⟩⟩
  ·have PS:b=false:=h.out
   subst PS
   obtain ⟨n1,n2⟩:=Kg oz
   cbv
   exact ⟨i+1,by have bK:=eW;exact bq,by have eH:=n1;have pz:=n2;exact bq,⟨⟨bO,cf⟩⟩⟩
 have Jt:l.length<=i:=aG
 obtain rfl:i=l.length:=by omega
 obtain ⟨f1,f2,f3,f4,f5,f6,f7,f8⟩:=hMF j l (Rf l.length) (Vf l.length) hJ bV hRe hVe
 obtain ⟨f11,f12,f13⟩:=f1
 have f1:(Rf l.length).length<=1000000/\(Rf l.length).Nodup/\∀r∈Rf l.length,2+(ins.length:Int)<=r:=⟨f11,f12,f13⟩
 obtain ⟨sg,Ga⟩:∃sg,fU ins.length (Rf l.length)=sg:=⟨_,rfl⟩
 rw [Ga] at f4 f5 f6
 obtain ⟨Cf,Gf⟩:∃Cf:Nat->List Cell,∀k,Cf k=((Rf l.length).take k).map λr=>(cellOf ins.length gs r (kU ⟨LL,CC,FF⟩ r) sg).1:=⟨_,λ_=>rfl⟩
 obtain ⟨Df,Gg⟩:∃Df:Nat->List Int,∀k,Df k=(dr.take k).map λv=>(sg v).getD 0:=⟨_,λ_=>rfl⟩
 have hC0:[]=Cf 0:=by rw [Gf];rfl
 have hD0:[]=Df 0:=by rw [Gg];rfl
 have hCn:∀(k:Nat) (r:Int) (c:Cell) (e:Int) (L:List Int),(Rf l.length)[k]?=some r->kU ⟨LL,CC,FF⟩ r=L->cellOf ins.length gs r L sg=(c,e)->Cf k++[c]=Cf (k+1):=λk r c e L h1 hL h2=>by
  rw [Gf,Gf,iT,h1,mW,vC,ig,Hq,hL,h2]
 have hDn:∀(k:Nat) (v t:Int),dr[k]?=some v->sg v=some t->Df k++[t]=Df (k+1):=λk v t h1 h2=>by
  rw [Gg,Gg,iT,h1,mW,vC,ig,Hq,h2];rfl
 have ZH:∀k,(Cf k).length<=k:=λk=>by rw [Gf,jQ,lq];omega
 have hDl:∀k,(Df k).length<=k:=λk=>by rw [Gg,jQ,lq];omega
 have hCe:∀k,(Rf l.length).length<=k->Cf k=mc:=λk hk=>by rw [Gf,iM hk,<-f5,hmc]
 have hDe:∀k,dr.length<=k->Df k=md:=λk hk=>by rw [Gg,iM hk,<-f6,hmd]
 have hRr:Rf l.length=cr:=by rw [<-f7,hcr]
 have hVv:Vf l.length=cl:=by rw [<-f8,j3]
 have wu:∀(r:Int) (L:List Int),L.length<=1000000->2+(ins.length:Int)<=r->r < 2+(ins.length:Int)+gs.length->∃c e,Jv ⟨ins,gs,outs,dr⟩ r L sg c e/\cellOf ins.length gs r L sg=(c,e):=λr L h1 h2 h3=>⟨_,_,⟨G,h1,h2,h3,rfl⟩,rfl⟩
 have fx:ins.length<=1000000/\B1 ins.length (Rf l.length):=⟨by omega,f11,f12,f13⟩
 clear h
 cbv
 refine Sat.freeze 9 rfl rfl ?_
 refine Sat.freeze 10 rfl rfl ?_
 refine Sat.j8 (agm 0 0) ?_
 cbv
 refine ⟨⟨⟨ins,gs,outs,dr⟩,Rf l.length⟩,⟨by exact a8,fx⟩,?_⟩
 cbv
 refine Sat.pR 7 1 135 3 UJ Bz rfl rfl ?_
 cbv
 refine Sat.pR 7 2 3 1 zr dq rfl rfl ?_
 cbv
 refine Sat.dP (EK 0 0) 13 15 [(.c 7 1,11),(.c 7 2,12)] (λk:Nat=>[(14,.mp (.int .i64) bJ (λ_=>sg)),(88,.sl 1 bJ (λ_=>Rf l.length)),(89,.i .i64 (λ_=>((Rf l.length).length:Int))),(90,.i .i64 (λ_=>(k:Int)))]) (λk=>[(11,.dyn 135 3 mF (λ_=>Cf k)),(12,.dyn 3 1 bJ (λ_=>Df 0))]) (λk=>k<=(Rf l.length).length) (λk=>(Rf l.length).length - k) 0 (by have FV:=Ga;exact bq) (by have eH:=hC0;have pz:=hD0;exact bq) (cI _) ?_
 intro k hk
 have hk:k<=(Rf l.length).length:=hk
 have sq:=n0 k
 have kJ:=eh (i:=k) (by omega)
 have Au:=ZH k
 have b5:((Cf k).length+1)*40<=140737488355328:=by omega
 have b6:(Cf k).length+1<=9223372036854775807:=by omega
 have Gh:=hCn k
 have lM:=hCe k
 cbv
 refine ⟨λh=>?_,λh=>?_⟩
 ·have dO:k < (Rf l.length).length:=aG
  have cf:(Rf l.length).length - (k+1) < (Rf l.length).length - k:=by omega
  refine (cg dO).elim λr hr=>?_
  obtain ⟨r1,r2,L,r3,r4,r5⟩:=f3 k r hr
  obtain ⟨c,ee,c1,c2⟩:=wu r L r4 r1 r2
  have hn:=Gh r c ee L hr r5 c2
  clear h
  cbv
  refine ⟨r,⟨sq,hr⟩,?_⟩
  cbv
  refine ⟨L,⟨sq,r3⟩,?_⟩
  cbv
  refine ⟨⟨⟨ins,gs,outs,dr⟩,r,L,sg,c,ee⟩,⟨by exact a8,c1⟩,?_⟩
  cbv
  refine ⟨[c],⟨by exact a8,b5,b6⟩,?_⟩
  cbv
  exact ⟨k+1,by have bK:=kJ;exact bq,by have eH:=hn;exact bq,⟨⟨dO,cf⟩⟩⟩
 have Z6:(Rf l.length).length<=k:=aG
 have lM:=lM Z6
 clear h
 cbv
 refine Sat.dP (EK 0 0) 13 15 [(.c 7 1,11),(.c 7 2,12)] (λq:Nat=>[(115,.sl 1 bJ (λ_=>dr)),(116,.i .i64 (λ_=>(dr.length:Int))),(117,.i .i64 (λ_=>(q:Int)))]) (λq=>[(12,.dyn 3 1 bJ (λ_=>Df q))]) (λq=>q<=dr.length) (λq=>dr.length - q) 0 (by exact aW) (by exact aW) (cI _) ?_
 intro q hq
 have hq:q<=dr.length:=hq
 have vj:=n0 q
 have AJ:=eh (i:=q) (by omega)
 have hdq:=hDl q
 have b7:((Df q).length+1)*8<=140737488355328:=by omega
 have b8:(Df q).length+1<=9223372036854775807:=by omega
 have hdn:=hDn q
 have Ge:=hDe q
 cbv
 refine ⟨λh=>?_,λh=>?_⟩
 ·have uY:q < dr.length:=aG
  have cf:dr.length - (q+1) < dr.length - q:=by omega
  refine (cg uY).elim λv hv=>?_
  obtain ⟨t,ht⟩:=f4 v (cM hv)
  have hn:=hdn v t hv ht
  clear h
  cbv
  refine ⟨v,⟨vj,hv⟩,?_⟩
  cbv
  refine ⟨some (some t),⟨ht⟩,?_⟩
  cbv
  refine ⟨[t],⟨by exact a8,b7,b8⟩,?_⟩
  cbv
  exact ⟨q+1,by have bK:=AJ;exact bq,by have eH:=hn;exact bq,⟨⟨uY,cf⟩⟩⟩
 have P6:dr.length<=q:=aG
 have Ge:=Ge P6
 clear h
 cbv
 exact ⟨by have iJ:=hRr;have Av:=hVv;have CP:=lM;have CQ:=Ge;have bK:=uU;have fW:=yo;exact bM⟩
end Go.Proofs.Pk
