import Derived.Test.YthnhbemmlfaihaaC13
import Derived.Test.YthnhbemmlfaihaaC14
import Derived.Test.YthnhbemmlfaihaaC25
import Derived.Test.YthnhbemmlfaihaaC26
set_option linter.unusedVariables false
set_option linter.unusedSimpArgs false
set_option maxRecDepth 10000
set_option maxHeartbeats 64000000
namespace Go.Proofs.Pk
open Go Go.Vc
structure ajB where
 n:Net
 m:ec
 c:kp
 e:Int
structure uM (n:Net) (m:ec) (c:kp) (e:Int):Prop where
 G:cv n.ins.length n.bU
 dr:∀d∈n.bf,0<=d/\d < 2+(n.ins.length:Int)+n.bU.length
 jt:n.bf.length<=1000000
 eq:mapM n.ins.length n.bU n.bf=(m,c,e)
@[reducible] noncomputable def Jg:Vc.Spec where
 α:=ajB
 args x:=[.agg (oj x.n)]
 pre x:=uM x.n x.m x.c x.e
 res x:=.bX [.agg (xY x.m),.agg (PR x.c),.i .i64 (λ_=>x.e)]
theorem TZ {I:Nat} {gs:List Gate} {s:dJ} (h:ly I gs s) {r:Nat} {l:List Int} (hr:2+I<=r) (hl:s.leaves[r]?=some l):l.length<=4:=by
 have hb:=(bq.1 hl).1
 rw [h.ni] at hb
 obtain ⟨g,hg⟩:=cC (l:=gs) (i:=r - 2 - I) (by omega)
 have:=h.lf (r - 2 - I) l g (by rw [show 2+I+(r - 2 - I)=r by omega];exact hl) hg
 split at this
 ·rw [this];have:=(y6 g).2;omega
 ·exact this.2.1
structure XK (I:Nat) (gs:List Gate) (s:dJ) (dr:List Int) (R:List Int) (V:List (List Int)) (sg:Int->Option Int):Prop where
 ok:BO I R
 vl:V.length=R.length
 at_:∀(k:Nat) r,R[k]?=some r->2+(I:Int)<=r/\r < 2+(I:Int)+gs.length/\∃L,V[k]?=some L/\L.length<=1000000/\iM s r=L
 Ps:∀v∈dr,∃t,sg v=some t
 cells:(lq I gs s dr).1.cells=R.map λr=>(cellOf I gs r (iM s r) sg).1
 bf:(lq I gs s dr).1.bf=dr.map λv=>(sg v).getD 0
 root:(lq I gs s dr).2.root=R
 leaves:(lq I gs s dr).2.leaves=V
theorem ajC {I:Nat} {gs:List Gate} (G:cv I gs) {s:dJ} (h:ly I gs s) {dr:List Int} (hd:∀d∈dr,0<=d/\d < 2+(I:Int)+gs.length) {R:List Int} {V:List (List Int)} (hR:R=gk I s dr) (hV:V=(gk I s dr).map (iM s)) :
  XK I gs s dr R V (fD I R):=by
 subst hR hV
 obtain ⟨r1,r2,r3,r4,r5⟩:=KM G h hd
 have fe:(gk I s dr).Nodup:=r1.imp λh e=>by omega
 refine ⟨⟨?_,fe,λr hr=>(r2 r hr).1⟩,kr _,λk r hk=>?_,λv hv=>?_,rfl,rfl,rfl,rfl⟩
 ·have h2:((gk I s dr).map Int.toNat).Nodup:=by
   refine pM.2 ((Lb.2 ⟨fe,R4 (r:=λa b=>0<=a/\0<=b) λa ha b hb=>?_⟩).imp λ⟨a,b⟩=>by omega)
   have:=r2 a ha;have:=r2 b hb;omega
  have:=Bc h2 (l₂:=List.range (2+I+gs.length)) λw hw=>by
   obtain ⟨u,hu,rfl⟩:=jO.1 hw
   have:=r2 u hu
   exact lR.2 (by omega)
  rw [kr,G8] at this
  have:=G.oR
  omega
 ·have hb:=r2 r (cL hk)
  refine ⟨hb.1,hb.2,iM s r,by rw [k8,hk];rfl,?_,rfl⟩
  unfold iM
  have hq:r.toNat < s.leaves.length:=by rw [h.ni];omega
  obtain ⟨l,hl⟩:=cC hq
  rw [List.getD_eq_getElem?_getD,hl,rE]
  have:=TZ h (by omega) hl
  omega
 ·refine LX ?_
  have:=hd v hv
  by_cases om:v < 2+(I:Int)
  ·exact .inl ⟨this.1,om⟩
  ·exact .inr (r3 v hv (by omega))
noncomputable def ajD (n m:Nat):Ctx:=cP n m [] [(20,I9)]
theorem aga (n m:Nat):CB PP (ajD n m):=cR n m trivial ⟨M4,trivial⟩
noncomputable def cMa (n m:Nat):Ctx:=cP n m [(33,Try.f33)] [(32,Of),(34,XJ),(20,I9),(21,Oh)] [33] [] [20]
theorem Ew (n m:Nat):CB PP (cMa n m):=cR n m ⟨fo Try.func33,trivial⟩ ⟨Vv,af9,M4,Vy,trivial⟩
theorem Nb:dm (PP ()) 19 Jg:=by
 refine fl (Ew 0 0) (fo Try.func19) (λa=>⟨td a.n,trivial⟩) (λa=>⟨zh a.m,Vz a.c,trivial,trivial⟩) ?_
 rintro ⟨⟨ins,gs,outs,dr⟩,⟨mn,mc,md⟩,⟨cr,cl⟩,e⟩ hx
 obtain ⟨G,CR,u6,hm⟩:uM ⟨ins,gs,outs,dr⟩ ⟨mn,mc,md⟩ ⟨cr,cl⟩ e:=hx
 have G:cv ins.length gs:=G
 have CR:∀d∈dr,0<=d/\d < 2+(ins.length:Int)+gs.length:=CR
 have u6:dr.length<=1000000:=u6
 have hm:mapM ins.length gs dr=(⟨mn,mc,md⟩,⟨cr,cl⟩,e):=hm
 have hb:=G.oR
 obtain ⟨out,cX⟩:∃out,iF ins.length gs=out:=⟨_,rfl⟩
 have ZS:cv ins.length gs/\iF ins.length gs=out:=⟨G,cX⟩
 unfold mapM at hm
 rw [cX] at hm
 rcases out with _|⟨LL,CC,FF⟩
 ·obtain ⟨⟨rfl,rfl,rfl⟩,⟨rfl,rfl⟩,rfl⟩:(0=mn/\[]=mc/\[]=md)/\([]=cr/\[]=cl)/\2=e:=by simpa only [Prod.mk.injEq,ec.mk.injEq,kp.mk.injEq] using hm
  refine ⟨?_⟩
  cbv
  refine ⟨⟨⟨ins,gs,outs,dr⟩,none⟩,⟨by exact a7,ZS⟩,?_⟩
  cbv
  exact ⟨by ((try cbv)<;>((repeat' first|exact cH.nil|exact Le.refl _|refine cH.cons ?_ ?_|exact Le.ic rfl|exact Le.bc rfl|exact Le.i rfl|exact Le.b rfl|exact Le.sl rfl|exact Le.mp rfl|exact Le.fu rfl|exact Le.nX rfl|refine Le.cD rfl (λ_=>?_)|refine Le.dF rfl (λ_ _=>rfl) (λ_=>?_) ?_|refine Le.agg ?_|refine Le.bX ?_|refine Le.fn ?_ ?_|refine Le.cZ ?_|exact trivial|refine And.intro ?_ ?_|refine λ_=>?_|exact Le.any _)))<;>first|exact .cD rfl (λx=>(Bp x).1)|exact .cD rfl (λx=>(dq x).1)|exact .cD rfl (λx=>(qF x).1)⟩
 have hs:ly ins.length gs ⟨LL,CC,FF⟩:=Bu _ rfl G cX
 have AE:LL.length=2+ins.length+gs.length:=hs.len
 have hFl:FF.length=2+ins.length+gs.length:=hs.ni
 have qg:0<=((LL.length:Nat):Int)/\((LL.length:Nat):Int)<=((LL.length:Nat):Int)/\((1:Nat):Int)*((LL.length:Nat):Int)<=281474976710656/\((LL.length:Nat):Int)<=9223372036854775807:=by omega
 have Jh:List.replicate ((LL.length:Nat):Int).toNat false=List.replicate LL.length false:=by rw [jw]
 have ajE:∀(l:List Bool) (x:Int),l.length=LL.length->x∈dr->Jf ⟨ins,gs,outs,dr⟩ ⟨LL,CC,FF⟩ l x/\x.toNat<=x.toNat:=λl x hl hx=>⟨⟨G,hs,hl.trans AE,(CR x hx).1,(CR x hx).2⟩,fP _⟩
 have agb:∀(j:Nat) (l:List Bool),q8 ins.length ⟨LL,CC,FF⟩ dr LL.length j l->dr.length<=j->oB l l.length=gk ins.length ⟨LL,CC,FF⟩ dr:=λj l h hj=>aaX (fP _) (q8.fin G hs (by rw [<-AE];exact h) hj CR)
 have hMF:∀(j:Nat) (l:List Bool) (R:List Int) (V:List (List Int)),q8 ins.length ⟨LL,CC,FF⟩ dr LL.length j l->dr.length<=j->R=gk ins.length ⟨LL,CC,FF⟩ dr->V=(gk ins.length ⟨LL,CC,FF⟩ dr).map (iM ⟨LL,CC,FF⟩)->XK ins.length gs ⟨LL,CC,FF⟩ dr R V (fD ins.length R):=λj l R V h hj hR hV=>ajC G hs CR hR hV
 obtain ⟨MO,CS⟩:∃MO,lq ins.length gs ⟨LL,CC,FF⟩ dr=MO:=⟨_,rfl⟩
 have uN:(MO.1,MO.2,(0:Int))=((⟨mn,mc,md⟩:ec),(⟨cr,cl⟩:kp),e):=by rw [<-CS];exact hm
 simp only [Prod.mk.injEq] at uN
 obtain ⟨su,kY,tQ⟩:=uN
 have hmc:(lq ins.length gs ⟨LL,CC,FF⟩ dr).1.cells=mc:=by rw [CS,su]
 have hmd:(lq ins.length gs ⟨LL,CC,FF⟩ dr).1.bf=md:=by rw [CS,su]
 have uO:(ins.length:Int)=mn:=by
    have h:(lq ins.length gs ⟨LL,CC,FF⟩ dr).1.n=mn:=by rw [CS,su]
    exact h
 have hcr:(lq ins.length gs ⟨LL,CC,FF⟩ dr).2.root=cr:=by rw [CS,kY]
 have jX:(lq ins.length gs ⟨LL,CC,FF⟩ dr).2.leaves=cl:=by rw [CS,kY]
 have ajF:∀(j:Nat) (l:List Bool) (i:Nat) (L:List Int),q8 ins.length ⟨LL,CC,FF⟩ dr LL.length j l->l[i]?=some true->FF[i]?=some L->L.length<=1000000:=λj l i L h hi hL=>by
  have:=TZ hs (h.nw i hi).1 hL;omega
 refine ⟨?_⟩
 cbv
 refine ⟨⟨⟨ins,gs,outs,dr⟩,some ⟨LL,CC,FF⟩⟩,⟨by exact a7,ZS⟩,?_⟩
 cbv
 refine ⟨⟨qg⟩,?_⟩
 refine Sat.eE (Ew 0 0) 7 9 [] (λy:Nat × List Bool=>[(39,.sl 1 bH (λ_=>dr)),(40,.i .i64 (λ_=>(dr.length:Int))),(41,.i .i64 (λ_=>(y.1:Int)))]) (λy=>[(4,.dyn 4 1 o8 (λ_=>y.2))]) (λy=>q8 ins.length ⟨LL,CC,FF⟩ dr LL.length y.1 y.2) (λy=>dr.length - y.1) (0,List.replicate LL.length false) (by exact aW) (by have eG:=Jh;exact a8) (.start _ _ _ _) ?_
 rintro ⟨j,l⟩ hJ
 have hJ:q8 ins.length ⟨LL,CC,FF⟩ dr LL.length j l:=hJ
 have e7:=hJ.le
 have nm:=hJ.len
 have l7:=n0 j
 have oS:=eO (i:=j) (by omega)
 cbv
 refine ⟨λh=>?_,λh=>?_⟩
 ·have E5:j < dr.length:=aL
  have cy:dr.length - (j+1) < dr.length - j:=by omega
  refine (cC E5).elim λx hx=>?_
  have dL:=ajE l x nm (cL hx)
  clear h
  cbv
  refine ⟨x,⟨l7,hx⟩,?_⟩
  cbv
  refine iW.tM (WD x.toNat) (λa y=>trivial) ⟨⟨ins,gs,outs,dr⟩,⟨LL,CC,FF⟩,l,x⟩ [0,5,4,3,6] rfl (by exact a7) (by exact aW) ⟨dL⟩ λy hy=>?_
  have bW:=hJ.step hx hy.out
  cbv
  exact ⟨(j+1,y),by have bE:=oS;exact a8,by exact aW,⟨⟨bW,cy⟩⟩⟩
 have b9:dr.length<=j:=aL
 have ZT:=agb j l hJ b9
 have hwf:l.length=2+ins.length+gs.length:=nm.trans AE
 obtain ⟨Rf,mH⟩:∃Rf:Nat->List Int,∀i,Rf i=oB l i:=⟨_,λ_=>rfl⟩
 obtain ⟨Vf,AF⟩:∃Vf:Nat->List (List Int),∀i,Vf i=(oB l i).map (iM ⟨LL,CC,FF⟩):=⟨_,λ_=>rfl⟩
 have CK:[]=Rf 0:=by rw [mH];rfl
 have hV0:[]=Vf 0:=by rw [AF];rfl
 have hRy:∀(i:Nat) L,l[i]?=some true->FF[i]?=some L->Rf i++[(i:Int)]=Rf (i+1)/\Vf i++[L]=Vf (i+1):=λi L h hL=>by
  rw [mH,mH,AF,AF,abn h,vy,il,Hf]
  refine ⟨rfl,?_⟩
  unfold iM
  rw [jw,List.getD_eq_getElem?_getD]
  show _++[L]=_++[(FF[i]?).getD []]
  rw [hL];rfl
 have Aw:∀i:Nat,l[i]?=some false->Rf i=Rf (i+1)/\Vf i=Vf (i+1):=λi h=>by
  rw [mH,mH,AF,AF,abR h];exact ⟨rfl,rfl⟩
 have JT:∀i,(Rf i).length<=i/\(Vf i).length<=i:=λi=>by
  rw [mH,AF,kr];exact ⟨RA l i,RA l i⟩
 have hRe:Rf l.length=gk ins.length ⟨LL,CC,FF⟩ dr:=by rw [mH];exact ZT
 have hVe:Vf l.length=(gk ins.length ⟨LL,CC,FF⟩ dr).map (iM ⟨LL,CC,FF⟩):=by rw [AF,ZT]
 clear h
 cbv
 refine Sat.pQ 8 0 3 1 zo dq rfl rfl ?_
 cbv
 refine Sat.pQ 8 1 32 1 MB qF rfl rfl ?_
 cbv
 refine Sat.eE (Ew 0 0) 11 13 [(.c 8 0,9),(.c 8 1,10)] (λi:Nat=>[(55,.i .i64 (λ_=>(l.length:Int))),(56,.i .i64 (λ_=>(i:Int)))]) (λi=>[(8,.fix 41 [.own 9,.own 10]),(9,.dyn 3 1 bH (λ_=>Rf i)),(10,.dyn 32 1 fR (λ_=>Vf i))]) (λi=>i<=l.length) (λi=>l.length - i) 0 (by exact aW) (by have eG:=CK;have pv:=hV0;exact a8) (cK _) ?_
 intro i hi
 have hi:i<=l.length:=hi
 have dP:=n0 i
 have gB:=eO (i:=i) (by omega)
 obtain ⟨yu,Yd⟩:=JT i
 have b1:((Rf i).length+1)*8<=140737488355328:=by omega
 have b2:(Rf i).length+1<=9223372036854775807:=by omega
 have b3:((Vf i).length+1)*24<=140737488355328:=by omega
 have b4:(Vf i).length+1<=9223372036854775807:=by omega
 have hry:=hRy i
 have JY:=Aw i
 cbv
 refine ⟨λh=>?_,λh=>?_⟩
 ·have bP:i < l.length:=aL
  have cy:l.length - (i+1) < l.length - i:=by omega
  refine (cC bP).elim λb ot=>?_
  have hif:i < FF.length:=by omega
  refine (cC hif).elim λL hL=>?_
  clear h
  cbv
  refine ⟨⟨⟨dP,bP⟩⟩,?_⟩
  cbv
  refine ⟨b,⟨ot,rfl⟩,?_⟩
  cbv
  refine ⟨λh=>?_,λh=>?_⟩
  ·have q7:b=true:=h.out
   subst q7
   obtain ⟨n1,n2⟩:=hry L ot hL
   have hL6:=ajF j l i L hJ ot hL
   cbv
   refine ⟨[(i:Int)],⟨by exact a7,b1,b2⟩,?_⟩
   cbv
   refine ⟨L,⟨⟨dP,hL⟩⟩,?_⟩
   cbv
   refine ⟨L,⟨by exact a7,hL6⟩,?_⟩
   cbv
   refine ⟨[L],⟨by exact a7,b3,b4⟩,?_⟩
   cbv
   exact ⟨i+1,by have bE:=gB;exact a8,by have eG:=n1;have pv:=n2;exact a8,⟨⟨bP,cy⟩⟩⟩
  ·have PL:b=false:=h.out
   subst PL
   obtain ⟨n1,n2⟩:=JY ot
   cbv
   exact ⟨i+1,by have bE:=gB;exact a8,by have eG:=n1;have pv:=n2;exact a8,⟨⟨bP,cy⟩⟩⟩
 have Jb:l.length<=i:=aL
 obtain rfl:i=l.length:=by omega
 obtain ⟨f1,f2,f3,f4,f5,f6,f7,f8⟩:=hMF j l (Rf l.length) (Vf l.length) hJ b9 hRe hVe
 obtain ⟨f11,f12,f13⟩:=f1
 have f1:(Rf l.length).length<=1000000/\(Rf l.length).Nodup/\∀r∈Rf l.length,2+(ins.length:Int)<=r:=⟨f11,f12,f13⟩
 obtain ⟨sg,FQ⟩:∃sg,fD ins.length (Rf l.length)=sg:=⟨_,rfl⟩
 rw [FQ] at f4 f5 f6
 obtain ⟨Cf,FX⟩:∃Cf:Nat->List Cell,∀k,Cf k=((Rf l.length).take k).map λr=>(cellOf ins.length gs r (iM ⟨LL,CC,FF⟩ r) sg).1:=⟨_,λ_=>rfl⟩
 obtain ⟨Df,FY⟩:∃Df:Nat->List Int,∀k,Df k=(dr.take k).map λv=>(sg v).getD 0:=⟨_,λ_=>rfl⟩
 have hC0:[]=Cf 0:=by rw [FX];rfl
 have hD0:[]=Df 0:=by rw [FY];rfl
 have hCn:∀(k:Nat) (r:Int) (c:Cell) (e:Int) (L:List Int),(Rf l.length)[k]?=some r->iM ⟨LL,CC,FF⟩ r=L->cellOf ins.length gs r L sg=(c,e)->Cf k++[c]=Cf (k+1):=λk r c e L h1 hL h2=>by
  rw [FX,FX,jm,h1,nJ,vy,il,Hf,hL,h2]
 have hDn:∀(k:Nat) (v t:Int),dr[k]?=some v->sg v=some t->Df k++[t]=Df (k+1):=λk v t h1 h2=>by
  rw [FY,FY,jm,h1,nJ,vy,il,Hf,h2];rfl
 have Zt:∀k,(Cf k).length<=k:=λk=>by rw [FX,kr,lQ];omega
 have hDl:∀k,(Df k).length<=k:=λk=>by rw [FY,kr,lQ];omega
 have hCe:∀k,(Rf l.length).length<=k->Cf k=mc:=λk hk=>by rw [FX,jj hk,<-f5,hmc]
 have hDe:∀k,dr.length<=k->Df k=md:=λk hk=>by rw [FY,jj hk,<-f6,hmd]
 have hRr:Rf l.length=cr:=by rw [<-f7,hcr]
 have hVv:Vf l.length=cl:=by rw [<-f8,jX]
 have wj:∀(r:Int) (L:List Int),L.length<=1000000->2+(ins.length:Int)<=r->r < 2+(ins.length:Int)+gs.length->∃c e,Jd ⟨ins,gs,outs,dr⟩ r L sg c e/\cellOf ins.length gs r L sg=(c,e):=λr L h1 h2 h3=>⟨_,_,⟨G,h1,h2,h3,rfl⟩,rfl⟩
 have fk:ins.length<=1000000/\BO ins.length (Rf l.length):=⟨by omega,f11,f12,f13⟩
 clear h
 cbv
 refine Sat.freeze 9 rfl rfl ?_
 refine Sat.freeze 10 rfl rfl ?_
 refine Sat.iR (aga 0 0) ?_
 cbv
 refine ⟨⟨⟨ins,gs,outs,dr⟩,Rf l.length⟩,⟨by exact a7,fk⟩,?_⟩
 cbv
 refine Sat.pQ 7 1 57 3 UA Bp rfl rfl ?_
 cbv
 refine Sat.pQ 7 2 3 1 zo dq rfl rfl ?_
 cbv
 refine Sat.eE (Ew 0 0) 13 15 [(.c 7 1,11),(.c 7 2,12)] (λk:Nat=>[(14,.mp (.int .i64) bH (λ_=>sg)),(88,.sl 1 bH (λ_=>Rf l.length)),(89,.i .i64 (λ_=>((Rf l.length).length:Int))),(90,.i .i64 (λ_=>(k:Int)))]) (λk=>[(11,.dyn 57 3 mC (λ_=>Cf k)),(12,.dyn 3 1 bH (λ_=>Df 0))]) (λk=>k<=(Rf l.length).length) (λk=>(Rf l.length).length - k) 0 (by have FE:=FQ;exact a8) (by have eG:=hC0;have pv:=hD0;exact a8) (cK _) ?_
 intro k hk
 have hk:k<=(Rf l.length).length:=hk
 have sr:=n0 k
 have kH:=eO (i:=k) (by omega)
 have Fz:=Zt k
 have b5:((Cf k).length+1)*40<=140737488355328:=by omega
 have b6:(Cf k).length+1<=9223372036854775807:=by omega
 have FZ:=hCn k
 have nt:=hCe k
 cbv
 refine ⟨λh=>?_,λh=>?_⟩
 ·have dI:k < (Rf l.length).length:=aL
  have cy:(Rf l.length).length - (k+1) < (Rf l.length).length - k:=by omega
  refine (cC dI).elim λr hr=>?_
  obtain ⟨r1,r2,L,r3,r4,r5⟩:=f3 k r hr
  obtain ⟨c,ee,c1,c2⟩:=wj r L r4 r1 r2
  have hn:=FZ r c ee L hr r5 c2
  clear h
  cbv
  refine ⟨r,⟨sr,hr⟩,?_⟩
  cbv
  refine ⟨L,⟨sr,r3⟩,?_⟩
  cbv
  refine ⟨⟨⟨ins,gs,outs,dr⟩,r,L,sg,c,ee⟩,⟨by exact a7,c1⟩,?_⟩
  cbv
  refine ⟨[c],⟨by exact a7,b5,b6⟩,?_⟩
  cbv
  exact ⟨k+1,by have bE:=kH;exact a8,by have eG:=hn;exact a8,⟨⟨dI,cy⟩⟩⟩
 have ZU:(Rf l.length).length<=k:=aL
 have nt:=nt ZU
 clear h
 cbv
 refine Sat.eE (Ew 0 0) 13 15 [(.c 7 1,11),(.c 7 2,12)] (λq:Nat=>[(115,.sl 1 bH (λ_=>dr)),(116,.i .i64 (λ_=>(dr.length:Int))),(117,.i .i64 (λ_=>(q:Int)))]) (λq=>[(12,.dyn 3 1 bH (λ_=>Df q))]) (λq=>q<=dr.length) (λq=>dr.length - q) 0 (by exact aW) (by exact aW) (cK _) ?_
 intro q hq
 have hq:q<=dr.length:=hq
 have u9:=n0 q
 have FV:=eO (i:=q) (by omega)
 have hdq:=hDl q
 have b7:((Df q).length+1)*8<=140737488355328:=by omega
 have b8:(Df q).length+1<=9223372036854775807:=by omega
 have hdn:=hDn q
 have FW:=hDe q
 cbv
 refine ⟨λh=>?_,λh=>?_⟩
 ·have uS:q < dr.length:=aL
  have cy:dr.length - (q+1) < dr.length - q:=by omega
  refine (cC uS).elim λv hv=>?_
  obtain ⟨t,ht⟩:=f4 v (cL hv)
  have hn:=hdn v t hv ht
  clear h
  cbv
  refine ⟨v,⟨u9,hv⟩,?_⟩
  cbv
  refine ⟨some (some t),⟨ht⟩,?_⟩
  cbv
  refine ⟨[t],⟨by exact a7,b7,b8⟩,?_⟩
  cbv
  exact ⟨q+1,by have bE:=FV;exact a8,by have eG:=hn;exact a8,⟨⟨uS,cy⟩⟩⟩
 have PZ:dr.length<=q:=aL
 have FW:=FW PZ
 clear h
 cbv
 exact ⟨by have iz:=hRr;have Aq:=hVv;have CD:=nt;have CE:=FW;have bE:=uO;have gE:=tQ;exact bJ⟩
end Go.Proofs.Pk
