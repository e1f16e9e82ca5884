import Derived.Test.YthnhbemmlfaihaaGreatT12
import Derived.Test.YthnhbemmlfaihaaGreatT34
import Derived.Test.YthnhbemmlfaihaaGreatT37
set_option linter.unusedVariables false
set_option linter.unusedSimpArgs false
set_option maxRecDepth 10000
set_option maxHeartbeats 64000000
namespace Go.Proofs.Pk
open Go Go.Vc
def Dd (s:jB):List SV:=[.sl 1 bK (λ_=>s.aN),.sl 1 jd (λ_=>s.bf)]
theorem Ku (s:jB):du (Dd s):=⟨λx=>(cP x).1,λx=>(qa x).1,trivial⟩
def QW (out:List Bool) (s:Int):Bool:=out.getD s.toNat false
def Ae (out:List Bool) (s:jB) (x:Block):Bool:=if x.b9 < 0 then zt x.table (x.ins.map (QW out)) else Fj s x.b9 (x.ins.map (QW out))
structure XI where
 p:bt
 out:List Bool
 b:Int
 s:jB
structure FT (x:XI) (y:List Bool):Prop where
 ok:∃z,x.p.blocks[x.b.toNat]?=some z/\y=x.out.set (x.p.ins.length+2*x.b.toNat) (Ae x.out x.s z)
structure Wk (x:XI):Prop where
 dK:x.p.blocks.length<=600
 ins:x.p.ins.length<=1000000
 lo:0<=x.b
 hi:x.b < x.p.blocks.length
 ol:x.out.length=x.p.ins.length+2*x.p.blocks.length
 used:∀z∈x.p.blocks,∀s∈z.ins,0<=s/\s < x.p.sigs
 k:∀z∈x.p.blocks,z.ins.length<=4
 b9:∀z∈x.p.blocks,z.b9<=63
 new:x.out[x.p.ins.length+2*x.b.toNat]?=some false
@[reducible] noncomputable def QX (p:bt) (out:List Bool) (s:jB):List Slot :=
 [.fix 57 (fB p),.fix 41 [.own 2],.dyn 4 1 jc (λ_=>out),.fix 179 (fB p),.fix 38 (Dd s)]
@[reducible] noncomputable def ap3:na where
 α:=XI
 args x:=[.i .i64 (λ_=>x.b),.ptr 0 0,.ptr 1 0,.ptr 3 0,.ptr 4 0]
 io x:=QX x.p x.out x.s
 pre x:=Wk x
 β:=List Bool
 post x y:=FT x y
 mv:=[]
 res x y:=.dH []
 ko x y:=QX x.p y x.s
noncomputable def cVe (n m:Nat):Ctx:=eF n m [] [(120,Wj),(95,CM),(219,afh)]
theorem agG (n m:Nat):CB PP (cVe n m):=eH n m trivial ⟨ap2,EP,aoS,trivial⟩
theorem anR:iK PP 218 ap3:=by
 refine mP (agG 0 0) (fo Tryz.func218) (λa y=>rfl) (λa=>⟨rfl,rfl⟩) .nil ?_
 rintro ⟨⟨ins,blocks,outs,ay⟩,out,b,⟨aN,bf⟩⟩ hx
 have hx:Wk ⟨⟨ins,blocks,outs,ay⟩,out,b,⟨aN,bf⟩⟩:=hx
 have oP:blocks.length<=600:=hx.dK
 have gY:ins.length<=1000000:=hx.ins
 have ei:0<=b:=hx.lo
 have eb:b < blocks.length:=hx.hi
 have gu:out.length=ins.length+2*blocks.length:=hx.ol
 obtain ⟨x,oZ⟩:=bB (l:=blocks) (i:=b.toNat) (by omega)
 have gW:=cb oZ
 have yH:∀s∈x.ins,0<=s/\s < (ins.length:Int)+2*blocks.length:=hx.used x gW
 have mu:x.ins.length<=4:=hx.k x gW
 have hxr:x.b9<=63:=hx.b9 x gW
 have bA:out[ins.length+2*b.toNat]?=some false:=hx.new
 clear hx
 obtain ⟨V,hV⟩:∃V,(x.ins.map λs=>out.getD s.toNat false)=V:=⟨_,rfl⟩
 have Jj:V.length=x.ins.length:=by rw [<-hV,ph]
 have gA:XF ⟨x.ins,out⟩:=⟨by show x.ins.length<=1000000;omega,λs hs=>by have:=yH s hs;show 0<=s/\s.toNat < out.length;omega⟩
 have Y3:V.length<=1000000:=by omega
 have HY:∀v,v=Ae out ⟨aN,bf⟩ x->FT ⟨⟨ins,blocks,outs,ay⟩,out,b,⟨aN,bf⟩⟩ (out.set (ins.length+2*b.toNat) v):=λv hv=>⟨x,oZ,by rw [hv]⟩
 have qZ:((ins.length:Int)+2*b).toNat=ins.length+2*b.toNat:=by omega
 have yI:0<=(ins.length:Int)+2*b/\((ins.length:Int)+2*b).toNat < out.length:=by omega
 have htu:out[((ins.length:Int)+2*b).toNat]?=some false:=by rw [qZ];exact bA
 have QQ:b<=1000000:=by omega
 have fV:x.b9 < 0->Ae out ⟨aN,bf⟩ x=zt x.table V:=λh=>by
  unfold Ae;rw [if_pos h];show zt x.table (x.ins.map λs=>out.getD s.toNat false)=_;rw [hV]
 have oX:¬x.b9 < 0->Ae out ⟨aN,bf⟩ x=Fj ⟨aN,bf⟩ x.b9 V:=λh=>by
  unfold Ae;rw [if_neg h];show Fj _ x.b9 (x.ins.map λs=>out.getD s.toNat false)=_;rw [hV]
 have wz:Ae out ⟨aN,bf⟩ x=false->FT ⟨⟨ins,blocks,outs,ay⟩,out,b,⟨aN,bf⟩⟩ out:=λh=>⟨x,oZ,by
  rw [h]
  show out=out.set (ins.length+2*b.toNat) false
  refine n5 λi=>?_
  rw [jb]
  split
  ·rename_i e;subst e;rw [bA];have:=(bY.1 bA).1;rw [if_pos this]
  ·rfl⟩
 obtain ⟨U,hU⟩:∃U:Nat->Int,∀i,U i=yd V i:=⟨_,λ_=>rfl⟩
 have Zh:0=U 0:=by rw [hU];rfl
 refine ⟨?_⟩
 cbv
 refine ⟨x,⟨ei,oZ⟩,?_⟩
 cbv
 refine ⟨⟨x.ins,out⟩,⟨.inl ⟨by exact bQ,rfl⟩,gA⟩,?_⟩
 cbv
 refine ⟨λh=>?_,λh=>?_⟩
 ·have hr:x.b9 < 0:=bG
  obtain ⟨v,hv⟩:∃v,zt x.table V=v:=⟨_,rfl⟩
  obtain ⟨o2,j5⟩:∃o,out.set ((ins.length:Int)+2*b).toNat v=o:=⟨_,rfl⟩
  have tA:FT ⟨⟨ins,blocks,outs,ay⟩,out,b,⟨aN,bf⟩⟩ o2:=by rw [<-j5,qZ];exact HY v (by rw [fV hr,hv])
  cbv
  refine ⟨⟨⟨ins,blocks,outs,ay⟩,b⟩,⟨by exact bQ,gY,ei,QQ⟩,?_⟩
  cbv
  refine ⟨⟨x.table,V⟩,⟨by have dJ:=hV;exact cQ,Y3⟩,?_⟩
  cbv
  refine ⟨⟨yI⟩,?_⟩
  cbv
  refine ⟨(false,v),⟨htu,rfl,by have jW:=hv;exact dy⟩,?_⟩
  cbv
  exact ⟨o2,[],[],⟨by exact aL,trivial⟩,by have dP:=j5;exact bI,⟨tA⟩⟩
 have hr:¬x.b9 < 0:=bG
 clear h
 cbv
 refine Sat.cd (agG 0 0) 6 8 [] (λi:Nat=>[(7,.sl 1 jc (λ_=>V)),(8,.i .i64 (λ_=>U i)),(33,.sl 1 jc (λ_=>V)),(34,.i .i64 (λ_=>(V.length:Int))),(35,.i .i64 (λ_=>(i:Int)))]) (λi=>[]) (λi=>i<=V.length) (λi=>V.length - i) 0 (by ((try cbv)<;>(repeat' (first|with_reducible exact trivial|with_reducible refine And.intro ?_ ?_))<;>(try first|exact de.refl _|exact de.dyn rfl|exact de.map rfl|exact de.iter rfl rfl (.inl rfl)|exact de.iter rfl rfl (.inr rfl)|refine de.fix ?_|refine de.dyn ?_)<;>((repeat' first|exact dW.nil|exact Le.refl _|refine dW.cons ?_ ?_|exact Le.ic rfl|exact Le.bc rfl|exact Le.i rfl|exact Le.b rfl|exact Le.sl rfl|exact Le.mp rfl|exact Le.iB rfl|exact Le.sr rfl|refine Le.dp rfl (λ_=>?_)|refine Le.eL rfl (λ_ _=>rfl) (λ_=>?_) ?_|refine Le.agg ?_|refine Le.dH ?_|refine Le.fn ?_ ?_|refine Le.dF ?_|exact trivial|refine And.intro ?_ ?_|refine λ_=>?_|exact Le.any _)))<;>first|exact Le.ic Zh|exact .sl hV|(refine .i ?_;rw [<-hV])) (by exact ao) (cL _) ?_
 intro i hi
 have hi:i<=V.length:=hi
 have h0:=n0 i
 have h1:=cj (i:=i) (by omega)
 cbv
 refine ⟨λh=>?_,λh=>?_⟩
 ·have bq:i < V.length:=bG
  have a7:V.length - (i+1) < V.length - i:=by omega
  refine (bB bq).elim λc hc=>?_
  cbv
  refine ⟨c,⟨h0,hc⟩,?_⟩
  cbv
  refine ⟨λh=>?_,λh=>?_⟩
  ·have w7:c=true:=h.out
   have cI:kT .or .i64 (U i) (IntKind.i64.wrap (1*2^(min ((i:Int)).toNat IntKind.i64.bits)))=U (i+1):=by rw [hU,hU];exact ada (by rw [hc,w7])
   cbv
   refine ⟨⟨h0⟩,?_⟩
   cbv
   exact ⟨i+1,by have bm:=cI;have lR:=h1;exact bI,by exact ao,⟨⟨bq,a7⟩⟩⟩
  ·have w7:c=false:=h.out
   have cI:U i=U (i+1):=by rw [hU,hU];exact aei (by rw [hc,w7])
   cbv
   exact ⟨i+1,by have bm:=cI;have lR:=h1;exact bI,by exact ao,⟨⟨bq,a7⟩⟩⟩
 have bS:i=V.length:=by
  have h':aS i V.length=false:=h.out
  have h2:¬(i:Int) < V.length:=by simpa [aS] using h'
  omega
 obtain ⟨u,hu⟩:∃u:Nat,U i=(u:Int):=by
  obtain ⟨n,hn,_⟩:=Ur V i (by omega)
  exact ⟨n,by rw [hU,hn]⟩
 have Yj:Iv V=(u:Int):=by unfold Iv;rw [<-bS,<-hU,hu]
 have hq:IntKind.i64.wrap (x.b9.tdiv 8)=x.b9 / 8:=by rw [Ay (by omega)];exact cD (by omega) (by omega)
 have Gq:x.b9.tmod 8=x.b9 % 8:=xD (by omega)
 have oW:0<=IntKind.i64.wrap (x.b9.tdiv 8):=by rw [hq];omega
 have hqt:(IntKind.i64.wrap (x.b9.tdiv 8)).toNat=(x.b9 / 8).toNat:=by rw [hq]
 have ym:0<=x.b9 / 8:=by omega
 have qt:0<=U i:=by rw [hu];exact GZ _
 have hut:(U i).toNat=u:=by rw [hu,pf]
 have aiE:(Iv V).toNat=u:=by rw [Yj,pf]
 have XJ:0<=x.b9.tmod 8:=by rw [Gq];omega
 clear h h0 h1 hi
 cbv
 refine ⟨⟨by decide⟩,?_⟩
 cbv
 refine ⟨λh=>?_,λh=>?_⟩
 rotate_left
 ·have FZ:bf[(x.b9 / 8).toNat]?=none:=by
   have h':aS (IntKind.i64.wrap (x.b9.tdiv 8)) (bf.length:Int)=false:=h.out
   rw [hq] at h'
   refine mA ?_
   have:¬x.b9 / 8 < (bf.length:Int):=by simpa [aS] using h'
   omega
  have tA:=wz (by rw [oX hr];unfold Fj;rw [FZ])
  cbv
  exact ⟨out,[],[],⟨by exact aL,trivial⟩,by exact ao,⟨tA⟩⟩
 have Bu:(x.b9 / 8).toNat < bf.length:=by
  have h':aS (IntKind.i64.wrap (x.b9.tdiv 8)) (bf.length:Int)=true:=h.out
  rw [hq] at h'
  have:x.b9 / 8 < (bf.length:Int):=by simpa [aS] using h'
  omega
 obtain ⟨m,hm⟩:=bB Bu
 have hmi:0<=IntKind.i64.wrap (x.b9.tdiv 8)/\bf[(IntKind.i64.wrap (x.b9.tdiv 8)).toNat]?=some m:=⟨oW,by rw [hqt];exact hm⟩
 clear h
 cbv
 refine ⟨m,⟨hmi⟩,?_⟩
 cbv
 refine ⟨λh=>?_,λh=>?_⟩
 rotate_left
 ·have FZ:m[(Iv V).toNat]?=none:=by
   have h':aS (U i) (m.length:Int)=false:=h.out
   rw [aiE]
   refine mA ?_
   have h2:¬U i < (m.length:Int):=by simpa [aS] using h'
   rw [hu] at h2
   omega
  have tA:=wz (by rw [oX hr];unfold Fj;simp only;rw [hm];simp only;rw [FZ])
  cbv
  exact ⟨out,[],[],⟨by exact aL,trivial⟩,by exact ao,⟨tA⟩⟩
 have Di:u < m.length:=by
  have h':aS (U i) (m.length:Int)=true:=h.out
  have h2:U i < (m.length:Int):=by simpa [aS] using h'
  rw [hu] at h2
  omega
 obtain ⟨w,hw⟩:=bB Di
 have w6:0<=U i/\m[(U i).toNat]?=some w:=⟨qt,by rw [hut];exact hw⟩
 obtain ⟨v,hv⟩:∃v,aV (kT .and .i64 (w.fdiv (2^(min (x.b9.tmod 8).toNat IntKind.i64.bits))) 1) 1=v:=⟨_,rfl⟩
 obtain ⟨o2,j5⟩:∃o,out.set ((ins.length:Int)+2*b).toNat v=o:=⟨_,rfl⟩
 have tA:FT ⟨⟨ins,blocks,outs,ay⟩,out,b,⟨aN,bf⟩⟩ o2:=by
  rw [<-j5,qZ]
  refine HY v ?_
  rw [oX hr]
  unfold Fj
  simp only
  rw [hm]
  simp only
  rw [aiE,hw]
  show v=FN w (x.b9 % 8)
  rw [<-hv,Gq]
  rfl
 clear h
 cbv
 refine ⟨⟨⟨ins,blocks,outs,ay⟩,b⟩,⟨by exact bQ,gY,ei,QQ⟩,?_⟩
 cbv
 refine ⟨m,⟨hmi⟩,?_⟩
 cbv
 refine ⟨w,⟨w6⟩,?_⟩
 cbv
 refine ⟨⟨by decide⟩,⟨XJ⟩,⟨yI⟩,?_⟩
 cbv
 refine ⟨(false,v),⟨htu,rfl,by have jW:=hv;exact dy⟩,?_⟩
 cbv
 exact ⟨o2,[],[],⟨by exact aL,trivial⟩,by have dP:=j5;exact bI,⟨tA⟩⟩
theorem mJ.all {p:bt} {st sig out:List Int} (h:mJ p st sig out) (ha:∀c,c < p.blocks.length->St st 2 c):out=lx p:=by
 refine n5 λb=>?_
 unfold lx
 rw [m7]
 by_cases hb:b < p.blocks.length
 ·have hx:p.blocks[b]?=some p.blocks[b]:=ep hb
  rw [GW hb]
  simp only [yY]
  unfold C9
  rw [hx]
  simp only
  split
  ·rename_i hr;exact (h.bh b _ hx hr).2.2
  ·rename_i hr;exact (h.done b _ hx (by omega) (ha b hb)).2
 ·rw [mA (by rw [h.ol];omega),mA (by simpa using hb)];rfl
structure aiF where
 p:bt
 sig:List Int
 out:List Int
 r:Nat->Nat
structure Wl (x:aiF):Prop where
 w:xQ x.p
 sh:Shape x.p
 rk:jH x.p x.r
 key:mJ x.p [] x.sig x.out
@[reducible] noncomputable def arj:na where
 α:=aiF
 args x:=[.agg (fB x.p),.fn (.func 100) [] [.ptr 0 0,.ptr 1 0,.ptr 3 0,.ptr 5 0]]
 io x:=[.fix 57 (fB x.p),.fix 72 [.own 2],.dyn 74 1 mH (λ_=>x.sig),.fix 72 [.own 4],.dyn 74 1 mH (λ_=>x.out),.fix 179 (fB x.p)]
 pre x:=Wl x
 β:=La
 post x y:=y.out=lx x.p
 mv:=[]
 res x y:=.b (λ_=>true)
 ko x y:=[.fix 57 (fB x.p),.fix 72 [.own 2],.dyn 74 1 mH (λ_=>y.sig),.fix 72 [.own 4],.dyn 74 1 mH (λ_=>y.out),.fix 179 (fB x.p)]
structure WkL where
 b:Nat
 st:List Int
 sig:List Int
 out:List Int
theorem aoT:iK PP 88 arj:=by
 refine mP (P8 0 0) (fo Tryz.func88) (λa y=>rfl) (λa=>⟨rfl,rfl⟩) .nil ?_
 rintro ⟨⟨ins,blocks,outs,ay⟩,sig,out,rk⟩ hx
 have hx:Wl ⟨⟨ins,blocks,outs,ay⟩,sig,out,rk⟩:=hx
 have hp:=hx.w
 have ej:=hx.sh
 have jD:=hx.rk
 have r7:=hx.key
 simp only at hp ej jD r7
 clear hx
 have oP:blocks.length<=600:=hp.dK
 have eI:0<=(blocks.length:Int)/\8*(blocks.length:Int)<=281474976710656/\(blocks.length:Int)<=9223372036854775807:=by omega
 refine ⟨?_⟩
 cbv
 refine ⟨⟨eI.1,jR _,eI.2.1,eI.2.2⟩,?_⟩
 cbv
 have tp:List.replicate ((blocks.length:Int)).toNat (0:Int)=List.replicate blocks.length 0:=by rw [pf]
 obtain ⟨Aa,zJ⟩:∃l,List.replicate ((blocks.length:Int)).toNat (0:Int)=l:=⟨_,rfl⟩
 have tN:uN ⟨ins,blocks,outs,ay⟩ 0 Aa:=by rw [<-zJ,tp];exact .start ⟨ins,blocks,outs,ay⟩
 have FR:mJ ⟨ins,blocks,outs,ay⟩ Aa sig out:=r7.aiC λc hc=>by
  rw [<-zJ,tp] at hc
  have hm:=cb (show (List.replicate blocks.length (0:Int))[c]?=some 2 from hc)
  have:=(Ex.1 hm).2
  omega
 refine Sat.cd (P8 0 0) 11 7 [(.c 9 0,8)] (λx:WkL=>[(17,.i .i64 (λ_=>(blocks.length:Int))),(18,.i .i64 λ_=>(x.b:Int))]) (λx=>[(8,.dyn 3 1 bK λ_=>x.st),(2,.dyn 74 1 mH (λ_=>x.sig)),(4,.dyn 74 1 mH (λ_=>x.out))])
  (λx=>uN ⟨ins,blocks,outs,ay⟩ x.b x.st/\mJ ⟨ins,blocks,outs,ay⟩ x.st x.sig x.out) (λx=>blocks.length - x.b) ⟨0,Aa,sig,out⟩ (by exact ao) (by have dP:=zJ;exact bI) ⟨tN,FR⟩ ?_
 rintro ⟨b,st,tx,dG⟩ ⟨hJ,hK⟩
 have hJ:uN ⟨ins,blocks,outs,ay⟩ b st:=hJ
 have hK:mJ ⟨ins,blocks,outs,ay⟩ st tx dG:=hK
 have eb:b<=blocks.length:=hJ.le
 have h0:=n0 b
 have h1:=cj (i:=b) (by omega)
 cbv
 refine ⟨λh=>?_,λh=>?_⟩
 ·have aR:b < blocks.length:=bG
  have a7:blocks.length - (b+1) < blocks.length - b:=by omega
  have fe:Qc (lN st) ⟨⟨ins,blocks,outs,ay⟩,st,b,tx,dG,rk⟩:=⟨hp,ej,jD,hJ.w,h0,by show (b:Int) < blocks.length;omega,cR _,λc hc=>absurd hc (hJ.one c),hK⟩
  cbv
  refine bV.jM (ab3 (lN st)) (λa y=>trivial) ⟨⟨ins,blocks,outs,ay⟩,st,b,tx,dG,rk⟩ [9,8,6,10,7,0,1,2,3,4,5] rfl (by exact bQ) (by exact ao) ⟨fe⟩ λy hy=>?_
  have hy:KL ⟨⟨ins,blocks,outs,ay⟩,st,b,tx,dG,rk⟩ y:=hy.out
  obtain ⟨res,lE,Dc,qV⟩:=y
  have hr:res=true:=hy.res
  have zS:py ⟨ins,blocks,outs,ay⟩ st b true lE:=hy.out
  have xm:mJ ⟨ins,blocks,outs,ay⟩ lE Dc qV:=hy.key
  subst hr
  cbv
  refine ⟨λh=>?_,λh=>?_⟩
  ·have h':(!true)=true:=h.out
   cases h'
  ·have bA:=hJ.next aR zS
   cbv
   exact ⟨⟨b+1,lE,Dc,qV⟩,by exact ao,by exact ao,⟨⟨⟨bA,xm⟩,a7⟩⟩⟩
 ·have bS:b=blocks.length:=by
   have h':aS b blocks.length=false:=h.out
   have h2:¬(b:Int) < blocks.length:=by simpa [aS] using h'
   omega
  have bW:dG=lx ⟨ins,blocks,outs,ay⟩:=hK.all λc hc=>hJ.two c (by rw [bS];exact hc)
  cbv
  exact ⟨⟨tx,dG⟩,[],[],⟨by exact aL,trivial⟩,by exact ao,⟨bW⟩⟩
structure mT (p:bt) (dc:List Bool) (s:jB) (st:List Int) (out:List Bool):Prop where
 ol:out.length=p.ins.length+2*p.blocks.length
 pC:∀i:Nat,i < p.ins.length->out[i]?=some (dc.getD i false)
 bh:∀(b:Nat) (x:Block),p.blocks[b]?=some x->out[p.ins.length+2*b+1]?=some (zI s x.bh)
 done:∀(b:Nat) (x:Block),p.blocks[b]?=some x->St st 2 b->out[p.ins.length+2*b]?=some (Da p dc s b)
 new:∀(b:Nat) (x:Block),p.blocks[b]?=some x->¬St st 2 b->out[p.ins.length+2*b]?=some false
theorem mT.same {p:bt} {dc:List Bool} {s:jB} {st gH:List Int} {out:List Bool} (h:mT p dc s st out) (hs:∀c,St gH 2 c↔St st 2 c):mT p dc s gH out:=⟨h.ol,h.pC,h.bh,λb x hx hb=>h.done b x hx ((hs b).1 hb),λb x hx hb=>h.new b x hx λh=>hb ((hs b).2 h)⟩
theorem mT.at {p:bt} {dc:List Bool} {s:jB} {st:List Int} {out:List Bool} (h:mT p dc s st out) {g:Int} (hu:kD p g) (hd:(p.ins.length:Int)<=g->¬fv p.ins.length g->St st 2 (cN p.ins.length g)):QW out g=yf p dc s (Da p dc s) g:=by
 have h0:=hu.lo
 have h1:=hu.hi
 unfold bt.sigs at h1
 unfold yf QW
 rw [ig]
 split
 ·rename_i aR
  rw [h.pC g.toNat (by omega)];rfl
 ·rename_i bS
  have eb:cN p.ins.length g < p.blocks.length:=by unfold cN;omega
  have hx:p.blocks[cN p.ins.length g]?=some (p.blocks[cN p.ins.length g]):=ep eb
  split
  ·rename_i hf
   have e:g.toNat=p.ins.length+2*cN p.ins.length g+1:=by unfold fv at hf;unfold cN;omega
   rw [e,h.bh _ _ hx]
   unfold V4
   rw [hx];rfl
  ·rename_i hf
   have e:g.toNat=p.ins.length+2*cN p.ins.length g:=by unfold fv at hf;unfold cN;omega
   rw [e,h.done _ _ hx (hd (by omega) hf)];rfl
theorem mT.val {p:bt} {dc:List Bool} {s:jB} {st:List Int} {out:List Bool} (h:mT p dc s st out) {r:Nat->Nat} (hr:jH p r) {b:Nat} {x:Block} (hx:p.blocks[b]?=some x) (hu:∀g∈x.ins,kD p g) (hd:∀g∈x.ins,(p.ins.length:Int)<=g->¬fv p.ins.length g->St st 2 (cN p.ins.length g)):Ae out s x=Da p dc s b:=by
 have hs:=ac3 hr dc s b
 rw [hs]
 unfold Iw
 rw [hx]
 simp only
 unfold Xt Ae
 rw [map_eq λg hg=>h.at (hu g hg) (hd g hg)]
theorem mT.visit {p:bt} {dc:List Bool} {s:jB} {st:List Int} {out:List Bool} (h:mT p dc s st out) {r:Nat->Nat} (hr:jH p r) {b:Nat} {x:Block} (hx:p.blocks[b]?=some x) (hb:St st 1 b) (hu:∀g∈x.ins,kD p g) (hd:∀g∈x.ins,(p.ins.length:Int)<=g->¬fv p.ins.length g->St st 2 (cN p.ins.length g)) {y:List Bool} (hy:FT ⟨p,out,b,s⟩ y):mT p dc s (st.set b 2) y:=by
 obtain ⟨z,hz,h1⟩:=hy.ok
 have hz:p.blocks[b]?=some z:=by simpa using hz
 rw [hx] at hz;cases hz
 have aR:=(bY.1 hx).1
 have h1:y=out.set (p.ins.length+2*b) (Ae out s x):=by simpa using h1
 rw [h.val hr hx hu hd] at h1
 rw [h1]
 have gu:=h.ol
 refine ⟨by simp [h.ol],λi hi=>?_,λc w hw=>?_,λc w hw hc=>?_,λc w hw hc=>?_⟩
 ·rw [eY (by omega)];exact h.pC i hi
 ·rw [eY (by omega)];exact h.bh c w hw
 ·by_cases gA:c=b
  ·subst gA
   rw [jb]
   simp [gu,aR]
  ·rw [eY (by omega)]
   exact h.done c w hw ((St.rJ gA).1 hc)
 ·by_cases gA:c=b
  ·subst gA
   exact absurd ((St.AX hb.lt).2 rfl) hc
  ·rw [eY (by omega)]
   exact h.new c w hw λh=>hc ((St.rJ gA).2 h)
structure XK where
 p:bt
 st:List Int
 b:Int
 out:List Bool
 r:Nat->Nat
 dc:List Bool
 s:jB
structure agH where
 res:Bool
 st:List Int
 out:List Bool
structure Qd (n:Nat) (x:XK):Prop where
 w:xQ x.p
 sh:Shape x.p
 rk:jH x.p x.r
 st:xf x.p x.st
 lo:0<=x.b
 hi:x.b < x.p.blocks.length
 z:lN x.st<=n
 on:∀c,St x.st 1 c->x.r x.b.toNat < x.r c
 key:mT x.p x.dc x.s x.st x.out
structure KM (x:XK) (y:agH):Prop where
 res:y.res=true
 out:py x.p x.st x.b.toNat true y.st
 key:mT x.p x.dc x.s y.st y.out
@[reducible] noncomputable def aiG (p:bt) (st:List Int) (out:List Bool) (s:jB):List Slot :=
 [.fix 35 [.own 1],.dyn 3 1 bK (λ_=>st),.fix 179 (fB p),.fix 180 [.fn (.func 179) [] [.ptr 0 0,.ptr 2 0,.ptr 3 0,.ptr 4 0]],.fix 187 [.fn (.func 218) [] [.ptr 5 0,.ptr 6 0,.ptr 8 0,.ptr 9 0]],
  .fix 57 (fB p),.fix 41 [.own 7],.dyn 4 1 jc (λ_=>out),.fix 179 (fB p),.fix 38 (Dd s)]
@[reducible] noncomputable def U1 (n:Nat):na where
 α:=XK
 args x:=[.i .i64 (λ_=>x.b),.ptr 0 0,.ptr 2 0,.ptr 3 0,.ptr 4 0]
 io x:=aiG x.p x.st x.out x.s
 pre x:=Qd n x
 β:=agH
 post x y:=KM x y
 mv:=[]
 res x y:=.b (λ_=>y.res)
 ko x y:=aiG x.p y.st y.out x.s
structure EeL where
 j:Nat
 st:List Int
 out:List Bool
noncomputable def cEe (n m:Nat):Ctx:=eF n m [(94,Tryz.f94),(179,Tryz.f179),(218,Tryz.f218)] [] [179,218]
theorem agI (n m:Nat):CB PP (cEe n m):=eH n m ⟨fo Tryz.func94,fo Tryz.func179,fo Tryz.func218,trivial⟩ trivial
theorem aaS (n:Nat) (ih:∀m,m+1=n->iK PP 179 (U1 m)):iK PP 179 (U1 n):=by
 refine mP (agI 0 0) (fo Tryz.func179) (λa y=>rfl) (λa=>⟨rfl,rfl⟩) .nil ?_
 rintro ⟨⟨ins,blocks,outs,ay⟩,st,b,out,rk,dc,ps⟩ hx
 have hx:Qd n ⟨⟨ins,blocks,outs,ay⟩,st,b,out,rk,dc,ps⟩:=hx
 have hp:=hx.w
 have ej:=hx.sh
 have jD:=hx.rk
 have cI:=hx.st
 have ei:0<=b:=hx.lo
 have eb:b < blocks.length:=hx.hi
 have hz:lN st<=n:=hx.z
 have MU:∀c,St st 1 c->rk b.toNat < rk c:=hx.on
 have r7:=hx.key
 simp only at hp ej jD cI r7
 clear hx
 have aim:st.length=blocks.length:=cI.len
 have jk:0<=b/\b.toNat < st.length:=by omega
 obtain ⟨v,hv⟩:=bB jk.2
 refine ⟨?_⟩
 cbv
 refine ⟨⟨jk⟩,v,⟨hv,rfl⟩,?_⟩
 cbv
 refine ⟨λh=>?_,λh=>?_⟩
 ·have qu:v=1:=bG
  exact absurd (MU b.toNat (by rw [<-qu];exact hv)) (Oc _)
 ·have qu:v≠1:=bG
  cbv
  refine ⟨λh=>?_,λh=>?_⟩
  ·have jV:v=2:=bG
   have bW:KM ⟨⟨ins,blocks,outs,ay⟩,st,b,out,rk,dc,ps⟩ ⟨true,st,out⟩:=⟨rfl,.CS cI (by rw [<-jV];exact hv),r7⟩
   cbv
   exact ⟨⟨true,st,out⟩,[],[],⟨by exact aL,trivial⟩,by exact ao,⟨bW⟩⟩
  ·have jV:v≠2:=bG
   have iq:St st 0 b.toNat:=by
    have:=cI.val _ _ hv
    have e:v=0:=by omega
    rw [<-e];exact hv
   have RD:=TS iq
   refine (⟨n - 1,by omega⟩:∃m,m+1=n).elim λm hm=>?_
   have ih:=ih m hm
   refine (bB (l:=blocks) (i:=b.toNat) (by omega)).elim λx hx=>?_
   have gW:=cb hx
   have yH:∀s∈x.ins,0<=s/\s < (ins.length:Int)+2*blocks.length:=hp.used x gW
   have pD:∀s∈x.ins,kD ⟨ins,blocks,outs,ay⟩ s:=ej.used x gW
   have mu:=hp.k x gW
   have oP:blocks.length<=600:=hp.dK
   have QP:ins.length<=1000000:=hp.ins
   have tN:=oY.start cI iq x
   have FR:mT ⟨ins,blocks,outs,ay⟩ dc ps (st.set b.toNat 1) out:=r7.same λc=>by
    by_cases gA:c=b.toNat
    ·rw [gA]
     exact ⟨λhc=>by have:=(St.AX iq.lt).1 hc;omega,λhc=>by have:=hc.uniq iq;omega⟩
    ·exact St.rJ gA
   cbv
   refine ⟨⟨jk⟩,?_⟩
   cbv
   refine ⟨(v,1),⟨hv,rfl,by exact aL⟩,?_⟩
   cbv
   refine ⟨x,⟨ei,hx⟩,?_⟩
   cbv
   refine Sat.cd (agI 0 0) 10 7 [] (λy:EeL=>[(28,.sl 1 bK (λ_=>x.ins)),(29,.i .i64 (λ_=>(x.ins.length:Int))),(30,.i .i64 λ_=>(y.j:Int))]) (λy=>[(1,.dyn 3 1 bK λ_=>y.st),(7,.dyn 4 1 jc λ_=>y.out)])
    (λy=>oY ⟨ins,blocks,outs,ay⟩ st b.toNat x y.j y.st/\mT ⟨ins,blocks,outs,ay⟩ dc ps y.st y.out) (λy=>x.ins.length - y.j) ⟨0,st.set b.toNat 1,out⟩ (by exact ao) (by exact ao) ⟨tN,FR⟩ ?_
   rintro ⟨j,gZ,dG⟩ ⟨hJ,hK⟩
   have hJ:oY ⟨ins,blocks,outs,ay⟩ st b.toNat x j gZ:=hJ
   have hK:mT ⟨ins,blocks,outs,ay⟩ dc ps gZ dG:=hK
   have eE:=hJ.le
   have iO:=n0 j
   have vF:=cj (i:=j) (by omega)
   cbv
   refine ⟨λh=>?_,λh=>?_⟩
   ·have vo:j < x.ins.length:=bG
    have a7:x.ins.length - (j+1) < x.ins.length - j:=by omega
    refine (bB vo).elim λs hs=>?_
    have qy:=yH s (cb hs)
    cbv
    refine ⟨s,⟨iO,hs⟩,?_⟩
    cbv
    refine ⟨λh=>?_,λh=>?_⟩
    ·have aR:s < (ins.length:Int):=bG
     have bA:=hJ.skip hs (λh=>by have:=h.1;simp only at this;omega)
     cbv
     exact ⟨⟨j+1,gZ,dG⟩,by exact ao,by exact ao,⟨⟨⟨bA,hK⟩,a7⟩⟩⟩
    ·have bS:(ins.length:Int)<=s:=bG
     have qy:0<=s/\s < (ins.length:Int)+2*(blocks.length:Int):=qy
     refine (⟨_,rfl⟩:∃d:Nat,cN ins.length s=d).elim λd hd=>?_
     have fH:IntKind.i64.wrap (s - (ins.length:Int))=s - (ins.length:Int):=cD (by omega) (by omega)
     have rf:(s - (ins.length:Int)) / 2=(d:Int):=by rw [<-hd];unfold cN;omega
     have hc:IntKind.i64.wrap ((IntKind.i64.wrap (s - (ins.length:Int))).tdiv 2)=(d:Int):=by
      rw [fH,Ay (by omega),rf];exact cD (by omega) (by omega)
     have hm:(IntKind.i64.wrap (s - (ins.length:Int))).tmod 2=(s - (ins.length:Int)) % 2:=by
      rw [fH,xD (by omega)]
     have fV:d < blocks.length:=by omega
     cbv
     refine ⟨⟨by decide⟩,⟨by decide⟩,λh=>?_,λh=>?_⟩
     ·cbv
      refine ⟨λh=>?_,λh=>?_⟩
      ·have lS:¬fv ins.length s:=by
        have h':(!aV ((IntKind.i64.wrap (s - (ins.length:Int))).tmod 2) 1)=true:=h.out
        rw [hm] at h'
        unfold fv
        simpa [aV] using h'
       have mS:rk d < rk b.toNat:=by
        have:=jD b.toNat x hx s (cb hs) bS lS
        rw [show cN ins.length s=d from hd] at this
        exact this
       have fe:Qd m ⟨⟨ins,blocks,outs,ay⟩,gZ,d,dG,rk,dc,ps⟩:=⟨hp,ej,jD,hJ.w,by show 0<=(d:Int);omega,by show (d:Int) < blocks.length;omega,by have:=hJ.z;show lN gZ<=m;omega,λc hc=>by
        show rk d < rk c
        rcases (hJ.one c).1 hc with h|h
        ·have:=MU c h;omega
        ·rw [h];exact mS,hK⟩
       cbv
       refine bV.jM ih (λa y=>trivial) ⟨⟨ins,blocks,outs,ay⟩,gZ,d,dG,rk,dc,ps⟩ [0,1,2,3,4,5,6,7,8,9] rfl (by exact bQ) (by exact ao) ⟨fe⟩ λy hy=>?_
       have hy:KM ⟨⟨ins,blocks,outs,ay⟩,gZ,d,dG,rk,dc,ps⟩ y:=hy.out
       obtain ⟨res,lE,qV⟩:=y
       have hr:res=true:=hy.res
       have zS:py ⟨ins,blocks,outs,ay⟩ gZ d true lE:=hy.out
       have xm:mT ⟨ins,blocks,outs,ay⟩ dc ps lE qV:=hy.key
       subst hr
       cbv
       refine ⟨λh=>?_,λh=>?_⟩
       ·have h':(!true)=true:=h.out
        cases h'
       ·have bA:=hJ.go hs iq (by rw [show cN ins.length s=d from hd];exact zS)
        cbv
        exact ⟨⟨j+1,lE,qV⟩,by exact ao,by exact ao,⟨⟨⟨bA,xm⟩,a7⟩⟩⟩
      ·have lS:fv ins.length s:=by
        have h':(!aV ((IntKind.i64.wrap (s - (ins.length:Int))).tmod 2) 1)=false:=h.out
        rw [hm] at h'
        unfold fv
        simpa [aV] using h'
       have bA:=hJ.skip hs (λh=>h.2 lS)
       cbv
       exact ⟨⟨j+1,gZ,dG⟩,by exact ao,by exact ao,⟨⟨⟨bA,hK⟩,a7⟩⟩⟩
     ·exfalso
      have h':cU 0 (IntKind.i64.wrap ((IntKind.i64.wrap (s - (ins.length:Int))).tdiv 2))=false:=h.out
      rw [hc] at h'
      simp only [cU,decide_eq_false_iff_not] at h'
      exact aU
   ·have oq:j=x.ins.length:=by
     have h':aS j x.ins.length=false:=h.out
     have h2:¬(j:Int) < x.ins.length:=by simpa [aS] using h'
     omega
    have bW:=hJ.out hx iq oq
    have zy:St gZ 1 b.toNat:=(hJ.one b.toNat).2 (.inr rfl)
    refine (⟨_,rfl⟩:∃l,gZ.set b.toNat 2=l).elim λlE h3=>?_
    have XH:∀y:List Bool,FT ⟨⟨ins,blocks,outs,ay⟩,dG,b,ps⟩ y->mT ⟨ins,blocks,outs,ay⟩ dc ps lE y:=λy hy=>by
     rw [<-h3]
     refine hK.visit jD hx zy pD (λs hs h1 h2=>?_) (by rw [show ((b.toNat:Nat):Int)=b by omega];exact hy)
     obtain ⟨i,hi,e⟩:=AD.1 hs
     exact hJ.ins i s (by omega) (by rw [ep hi,e]) h1 h2
    have Zi:Wk ⟨⟨ins,blocks,outs,ay⟩,dG,b,ps⟩:=⟨oP,QP,ei,eb,hK.ol,hp.used,λz hz=>(ej.formed z hz).k,λz hz=>(ej.formed z hz).b9.2,hK.new b.toNat x hx λh=>by have:=h.uniq zy;omega⟩
    rw [h3] at bW
    have Db:0<=b/\b.toNat < gZ.length:=by have:=hJ.w.len;simp only at this;omega
    refine (bB Db.2).elim λu hu=>?_
    cbv
    refine ⟨⟨Db⟩,?_⟩
    cbv
    refine ⟨(u,2),⟨hu,rfl,by exact aL⟩,?_⟩
    cbv
    refine bV.jM anR (λa y=>trivial) ⟨⟨ins,blocks,outs,ay⟩,dG,b,ps⟩ [5,6,7,8,9] rfl (by exact bQ) (by exact ao) ⟨Zi⟩ λqV hy=>?_
    have xm:=XH qV hy.out
    have HY:KM ⟨⟨ins,blocks,outs,ay⟩,st,b,out,rk,dc,ps⟩ ⟨true,lE,qV⟩:=⟨rfl,bW,xm⟩
    cbv
    exact ⟨⟨true,lE,qV⟩,[],[],⟨by exact aL,trivial⟩,by have dP:=h3;exact bI,⟨HY⟩⟩
theorem ab4:∀n,iK PP 179 (U1 n)
 | 0=>aaS 0 λm h=>by omega
 | n+1=>aaS (n+1) λm h=>by
  cases TC h
  exact ab4 n
theorem mT.all {p:bt} {dc:List Bool} {s:jB} {st:List Int} {out:List Bool} (h:mT p dc s st out) (ha:∀c,c < p.blocks.length->St st 2 c):out=zu p dc s:=by
 refine n5 λi=>?_
 unfold zu
 rw [m7]
 by_cases hi:i < p.ins.length+2*p.blocks.length
 ·rw [GW hi]
  simp only [yY]
  unfold yf
  by_cases hw:i < p.ins.length
  ·rw [if_pos (by omega),h.pC i hw,pf]
  ·rw [if_neg (by omega)]
   have eb:cN p.ins.length (i:Int) < p.blocks.length:=by unfold cN;omega
   have hx:p.blocks[cN p.ins.length (i:Int)]?=some (p.blocks[cN p.ins.length (i:Int)]):=ep eb
   by_cases hf:fv p.ins.length (i:Int)
   ·rw [if_pos hf]
    have e:i=p.ins.length+2*cN p.ins.length (i:Int)+1:=by unfold fv at hf;unfold cN;omega
    conv=>lhs;rw [e]
    rw [h.bh _ _ hx]
    unfold V4
    rw [hx]
   ·rw [if_neg hf]
    have e:i=p.ins.length+2*cN p.ins.length (i:Int):=by unfold fv at hf;unfold cN;omega
    conv=>lhs;rw [e]
    rw [h.done _ _ hx (ha _ eb)]
 ·rw [mA (by rw [h.ol];omega),mA (by simpa using hi)];rfl
structure aiH where
 p:bt
 out:List Bool
 r:Nat->Nat
 dc:List Bool
 s:jB
structure Wm (x:aiH):Prop where
 w:xQ x.p
 sh:Shape x.p
 rk:jH x.p x.r
 key:mT x.p x.dc x.s [] x.out
@[reducible] noncomputable def ark:na where
 α:=aiH
 args x:=[.agg (fB x.p),.fn (.func 218) [] [.ptr 0 0,.ptr 1 0,.ptr 3 0,.ptr 4 0]]
 io x:=QX x.p x.out x.s
 pre x:=Wm x
 β:=List Bool
 post x y:=y=zu x.p x.dc x.s
 mv:=[]
 res x y:=.b (λ_=>true)
 ko x y:=QX x.p y x.s
structure WeL where
 b:Nat
 st:List Int
 out:List Bool
noncomputable def cWe (n m:Nat):Ctx:=eF n m [(179,Tryz.f179)] [] [179]
theorem agJ (n m:Nat):CB PP (cWe n m):=eH n m ⟨fo Tryz.func179,trivial⟩ trivial
theorem aoU:iK PP 88 ark:=by
 refine mP (agJ 0 0) (fo Tryz.func88) (λa y=>rfl) (λa=>⟨rfl,rfl⟩) .nil ?_
 rintro ⟨⟨ins,blocks,outs,ay⟩,out,rk,dc,ps⟩ hx
 have hx:Wm ⟨⟨ins,blocks,outs,ay⟩,out,rk,dc,ps⟩:=hx
 have hp:=hx.w
 have ej:=hx.sh
 have jD:=hx.rk
 have r7:=hx.key
 simp only at hp ej jD r7
 clear hx
 have oP:blocks.length<=600:=hp.dK
 have eI:0<=(blocks.length:Int)/\8*(blocks.length:Int)<=281474976710656/\(blocks.length:Int)<=9223372036854775807:=by omega
 refine ⟨?_⟩
 cbv
 refine ⟨⟨eI.1,jR _,eI.2.1,eI.2.2⟩,?_⟩
 cbv
 have tp:List.replicate ((blocks.length:Int)).toNat (0:Int)=List.replicate blocks.length 0:=by rw [pf]
 obtain ⟨Aa,zJ⟩:∃l,List.replicate ((blocks.length:Int)).toNat (0:Int)=l:=⟨_,rfl⟩
 have tN:uN ⟨ins,blocks,outs,ay⟩ 0 Aa:=by rw [<-zJ,tp];exact .start ⟨ins,blocks,outs,ay⟩
 have FR:mT ⟨ins,blocks,outs,ay⟩ dc ps Aa out:=r7.same λc=>⟨λhc=>by
  rw [<-zJ,tp] at hc
  have hm:=cb (show (List.replicate blocks.length (0:Int))[c]?=some 2 from hc)
  have:=(Ex.1 hm).2
  omega,λhc=>by cases hc⟩
 refine Sat.cd (agJ 0 0) 10 7 [(.c 8 0,7)] (λx:WeL=>[(17,.i .i64 (λ_=>(blocks.length:Int))),(18,.i .i64 λ_=>(x.b:Int))]) (λx=>[(7,.dyn 3 1 bK λ_=>x.st),(2,.dyn 4 1 jc (λ_=>x.out))])
  (λx=>uN ⟨ins,blocks,outs,ay⟩ x.b x.st/\mT ⟨ins,blocks,outs,ay⟩ dc ps x.st x.out) (λx=>blocks.length - x.b) ⟨0,Aa,out⟩ (by exact ao) (by have dP:=zJ;exact bI) ⟨tN,FR⟩ ?_
 rintro ⟨b,st,dG⟩ ⟨hJ,hK⟩
 have hJ:uN ⟨ins,blocks,outs,ay⟩ b st:=hJ
 have hK:mT ⟨ins,blocks,outs,ay⟩ dc ps st dG:=hK
 have eb:b<=blocks.length:=hJ.le
 have h0:=n0 b
 have h1:=cj (i:=b) (by omega)
 cbv
 refine ⟨λh=>?_,λh=>?_⟩
 ·have aR:b < blocks.length:=bG
  have a7:blocks.length - (b+1) < blocks.length - b:=by omega
  have fe:Qd (lN st) ⟨⟨ins,blocks,outs,ay⟩,st,b,dG,rk,dc,ps⟩:=⟨hp,ej,jD,hJ.w,h0,by show (b:Int) < blocks.length;omega,cR _,λc hc=>absurd hc (hJ.one c),hK⟩
  cbv
  refine bV.jM (ab4 (lN st)) (λa y=>trivial) ⟨⟨ins,blocks,outs,ay⟩,st,b,dG,rk,dc,ps⟩ [8,7,5,9,6,0,1,2,3,4] rfl (by exact bQ) (by exact ao) ⟨fe⟩ λy hy=>?_
  have hy:KM ⟨⟨ins,blocks,outs,ay⟩,st,b,dG,rk,dc,ps⟩ y:=hy.out
  obtain ⟨res,lE,qV⟩:=y
  have hr:res=true:=hy.res
  have zS:py ⟨ins,blocks,outs,ay⟩ st b true lE:=hy.out
  have xm:mT ⟨ins,blocks,outs,ay⟩ dc ps lE qV:=hy.key
  subst hr
  cbv
  refine ⟨λh=>?_,λh=>?_⟩
  ·have h':(!true)=true:=h.out
   cases h'
  ·have bA:=hJ.next aR zS
   cbv
   exact ⟨⟨b+1,lE,qV⟩,by exact ao,by exact ao,⟨⟨⟨bA,xm⟩,a7⟩⟩⟩
 ·have bS:b=blocks.length:=by
   have h':aS b blocks.length=false:=h.out
   have h2:¬(b:Int) < blocks.length:=by simpa [aS] using h'
   omega
  have bW:dG=zu ⟨ins,blocks,outs,ay⟩ dc ps:=hK.all λc hc=>hJ.two c (by rw [bS];exact hc)
  cbv
  exact ⟨dG,[],[],⟨by exact aL,trivial⟩,by exact ao,⟨bW⟩⟩
structure De (p:bt):Prop where
 sh:Shape p
 rk:∃r,jH p r
 ins:p.ins.length<=1000000
@[reducible] noncomputable def Qe:Vc.Spec where
 α:=bt
 args x:=[.agg (fB x)]
 pre x:=De x
 res x:=.sl 1 mH (λ_=>lx x)
 fr:=true
structure Jk (p:bt) (i:Nat) (sig:List Int):Prop where
 le:i<=p.ins.length
 sl:sig.length=p.ins.length+2*p.blocks.length
 pC:∀s:Nat,s < i->sig[s]?=some (K8 p s)
theorem Jk.add {p:bt} {i:Nat} {sig:List Int} (h:Jk p i sig) {w:bU} (hw:p.ins[i]?=some w):Jk p (i+1) (sig.set i (iw [2,w.kind,w.i,w.bit])):=by
 have aR:=(bY.1 hw).1
 refine ⟨aR,by simp [h.sl],λs hs=>?_⟩
 by_cases e:s=i
 ·subst e
  have jm:=h.sl
  rw [jb]
  simp only [if_true]
  rw [if_pos (by omega)]
  unfold K8
  rw [pf,ig,hw]
  rfl
 ·rw [eY (λh=>e h.symm)];exact h.pC s (by omega)
structure Af (p:bt) (i:Nat) (sig out:List Int):Prop where
 le:i<=p.blocks.length
 sl:sig.length=p.ins.length+2*p.blocks.length
 ol:out.length=p.blocks.length
 pC:∀s:Nat,s < p.ins.length->sig[s]?=some (K8 p s)
 bh:∀(b:Nat) (x:Block),b < i->p.blocks[b]?=some x->0<=x.bh->sig[p.ins.length+2*b]?=some (iw [3,x.bh])/\sig[p.ins.length+2*b+1]?=some (iw [1,x.bh])/\out[b]?=some (iw [1,x.bh])
theorem Af.skip {p:bt} {i:Nat} {sig out:List Int} (h:Af p i sig out) {x:Block} (hx:p.blocks[i]?=some x) (hr:x.bh < 0):Af p (i+1) sig out :=
 ⟨(
  bY.1 hx).1,h.sl,h.ol,h.pC,λb y hb hy h0=>by
  by_cases e:b=i
  ·subst e;rw [hx] at hy;cases hy;omega
  ·exact h.bh b y (by omega) hy h0⟩
theorem Af.add {p:bt} {i:Nat} {sig out:List Int} (h:Af p i sig out) {x:Block} (hx:p.blocks[i]?=some x) (hr:0<=x.bh):Af p (i+1) ((sig.set (p.ins.length+2*i) (iw [3,x.bh])).set (p.ins.length+2*i+1) (iw [1,x.bh])) (out.set i (iw [1,x.bh])):=by
 have aR:=(bY.1 hx).1
 have jm:=h.sl
 have gu:=h.ol
 refine ⟨aR,by simp [jm],by simp [gu],λs hs=>?_,λb y hb hy h0=>?_⟩
 ·rw [eY (by omega),eY (by omega)];exact h.pC s hs
 ·by_cases e:b=i
  ·subst e;rw [hx] at hy;cases hy
   refine ⟨?_,?_,?_⟩
   ·rw [eY (by omega),jb];simp;omega
   ·rw [jb];simp;omega
   ·rw [jb];simp;omega
  ·rw [eY (by omega),eY (by omega),eY (by omega),eY (by omega),eY (by omega)]
   exact h.bh b y (by omega) hy h0
noncomputable def cKy (n m:Nat):Ctx:=eF n m [(98,Tryz.f98),(88,Tryz.f88)] [(99,UT),(95,CM)] [88]
theorem Wn (n m:Nat):CB PP (cKy n m):=eH n m ⟨fo Tryz.func98,fo Tryz.func88,trivial⟩ ⟨abZ,EP,trivial⟩
theorem U2:cW (PP ()) 26 Qe:=by
 refine Pg (Wn 0 0) (fo Tryz.func26) (λa=>⟨kE a,trivial⟩) (λa=>(λx=>(OP x).1)) ?_
 rintro ⟨ins,blocks,outs,ay⟩ hx
 have hx:De ⟨ins,blocks,outs,ay⟩:=hx
 have ej:=hx.sh
 have gY:ins.length<=1000000:=hx.ins
 obtain ⟨rk,jD⟩:=hx.rk
 have oP:blocks.length<=600:=ej.dK
 have dA:IntKind.i64.wrap ((ins.length:Int)+IntKind.i64.wrap (2*(blocks.length:Int)))=((ins.length+2*blocks.length:Nat):Int):=by rw [cD (n:=2*(blocks.length:Int)) (by omega) (by omega),cD (by omega) (by omega)];omega
 have eI:0<=IntKind.i64.wrap ((ins.length:Int)+IntKind.i64.wrap (2*(blocks.length:Int)))/\8*IntKind.i64.wrap ((ins.length:Int)+IntKind.i64.wrap (2*(blocks.length:Int)))<=281474976710656/\IntKind.i64.wrap ((ins.length:Int)+IntKind.i64.wrap (2*(blocks.length:Int)))<=9223372036854775807:=by rw [dA];omega
 have XL:0<=(blocks.length:Int)/\8*(blocks.length:Int)<=281474976710656/\(blocks.length:Int)<=9223372036854775807:=by omega
 obtain ⟨s0,Gr⟩:∃s0,List.replicate (IntKind.i64.wrap ((ins.length:Int)+IntKind.i64.wrap (2*(blocks.length:Int)))).toNat (0:Int)=s0:=⟨_,rfl⟩
 have RT:Jk ⟨ins,blocks,outs,ay⟩ 0 s0:=⟨cL _,by rw [<-Gr,dA,si];rfl,λs h=>by omega⟩
 refine ⟨?_⟩
 cbv
 refine ⟨⟨eI.1,jR _,eI.2.1,eI.2.2⟩,?_⟩
 cbv
 refine Sat.cd (Wn 0 0) 5 5 [(.c 4 0,3)] (λx:Nat × List Int=>[(16,.sl 3 dk (λ_=>ins)),(17,.i .i64 (λ_=>(ins.length:Int))),(18,.i .i64 (λ_=>(x.1:Int)))]) (λx=>[(3,.dyn 74 1 mH (λ_=>x.2))])
  (λx=>Jk ⟨ins,blocks,outs,ay⟩ x.1 x.2) (λx=>ins.length - x.1) (0,s0) (by exact ao) (by have dP:=Gr;exact bI) RT ?_
 rintro ⟨i,sig⟩ hJ
 have hJ:Jk ⟨ins,blocks,outs,ay⟩ i sig:=hJ
 have hi:i<=ins.length:=hJ.le
 have jm:sig.length=ins.length+2*blocks.length:=hJ.sl
 have h0:=n0 i
 have h1:=cj (i:=i) (by omega)
 cbv
 refine ⟨λh=>?_,λh=>?_⟩
 ·have bq:i < ins.length:=bG
  have a7:ins.length - (i+1) < ins.length - i:=by omega
  refine (bB bq).elim λw hw=>?_
  refine (⟨_,rfl⟩:∃K,iw [2,w.kind,w.i,w.bit]=K).elim λK hK=>?_
  have bA:=hJ.add (w:=w) hw
  rw [hK] at bA
  have uJ:0<=(i:Int)/\(i:Int).toNat < sig.length:=⟨h0,by omega⟩
  refine (bB uJ.2).elim λu hu=>?_
  refine (⟨_,rfl⟩:∃s2,sig.set i K=s2).elim λs2 tK=>?_
  rw [tK] at bA
  have avu:sig.set ((i:Int)).toNat K=s2:=tK
  cbv
  refine ⟨w,⟨h0,hw⟩,?_⟩
  cbv
  refine ⟨[2,w.kind,w.i,w.bit],⟨.inl ⟨by exact bQ,rfl⟩,by show 4 < 4611686018427387904;decide⟩,?_⟩
  cbv
  refine ⟨⟨uJ⟩,?_⟩
  cbv
  refine ⟨(u,K),⟨hu,rfl,by have bm:=hK;exact dy⟩,?_⟩
  cbv
  exact ⟨(i+1,s2),by exact ao,by have dP:=avu;exact bI,⟨⟨bA,a7⟩⟩⟩
 ·have bS:i=ins.length:=by
   have h':aS i ins.length=false:=h.out
   have h2:¬(i:Int) < ins.length:=by simpa [aS] using h'
   omega
  obtain ⟨o0,ho0⟩:∃o0,List.replicate ((blocks.length:Int)).toNat (0:Int)=o0:=⟨_,rfl⟩
  have MS:Af ⟨ins,blocks,outs,ay⟩ 0 sig o0:=⟨cL _,jm,by rw [<-ho0,si,pf],λs hs=>hJ.pC s (by rw [bS];exact hs),λb x hb=>by omega⟩
  clear hJ hi h0 h1
  cbv
  refine ⟨⟨XL.1,jR _,XL.2.1,XL.2.2⟩,?_⟩
  cbv
  refine Sat.cd (Wn 0 0) 7 5 [(.c 4 0,3),(.c 6 0,5)] (λx:Nat × List Int × List Int=>[(7,.ptr 6 0),(40,.sl 5 oD (λ_=>blocks)),(41,.i .i64 (λ_=>(blocks.length:Int))),(42,.i .i64 (λ_=>(x.1:Int)))]) (λx=>[(3,.dyn 74 1 mH (λ_=>x.2.1)),(5,.dyn 74 1 mH (λ_=>x.2.2))])
   (λx=>Af ⟨ins,blocks,outs,ay⟩ x.1 x.2.1 x.2.2) (λx=>blocks.length - x.1) (0,sig,o0) (by exact ao) (by have dP:=ho0;exact bI) MS ?_
  rintro ⟨i,sig,out⟩ hJ
  have hJ:Af ⟨ins,blocks,outs,ay⟩ i sig out:=hJ
  have hi:i<=blocks.length:=hJ.le
  have jm:sig.length=ins.length+2*blocks.length:=hJ.sl
  have gu:out.length=blocks.length:=hJ.ol
  have h0:=n0 i
  have h1:=cj (i:=i) (by omega)
  cbv
  refine ⟨λh=>?_,λh=>?_⟩
  ·have bq:i < blocks.length:=bG
   have a7:blocks.length - (i+1) < blocks.length - i:=by omega
   refine (bB bq).elim λx hx=>?_
   cbv
   refine ⟨x,⟨h0,hx⟩,?_⟩
   cbv
   refine ⟨λh=>?_,λh=>?_⟩
   ·have hr:0<=x.bh:=bG
    refine (⟨_,rfl⟩:∃K,iw [1,x.bh]=K).elim λK hK=>?_
    refine (⟨_,rfl⟩:∃M,iw [3,x.bh]=M).elim λM hM=>?_
    have bA:=hJ.add hx hr
    rw [hK,hM] at bA
    have xg:0<=(i:Int)/\(i:Int).toNat < out.length:=⟨h0,by omega⟩
    refine (bB xg.2).elim λu hu=>?_
    have Iz:(i:Int)<=1000000:=by omega
    have yI:0<=(ins.length:Int)+2*(i:Int)/\((ins.length:Int)+2*(i:Int)).toNat < sig.length:=by omega
    refine (bB yI.2).elim λu2 uK=>?_
    have tI:IntKind.i64.wrap ((ins.length:Int)+2*(i:Int)+1)=((ins.length+2*i+1:Nat):Int):=by rw [cD (by omega) (by omega)];omega
    have aiI:0<=IntKind.i64.wrap ((ins.length:Int)+2*(i:Int)+1)/\(IntKind.i64.wrap ((ins.length:Int)+2*(i:Int)+1)).toNat < (sig.set ((ins.length:Int)+2*(i:Int)).toNat M).length:=by rw [tI,kO];omega
    refine (bB aiI.2).elim λu3 YU=>?_
    have Xw:0<=(i:Int)/\(i:Int).toNat < (out.set (i:Int).toNat K).length:=by rw [kO];exact xg
    have BQ:(out.set (i:Int).toNat K)[(i:Int).toNat]?=some K:=by rw [jb];simp;omega
    refine (⟨_,rfl⟩:∃o2,out.set (i:Int).toNat K=o2).elim λo2 j5=>?_
    refine (⟨_,rfl⟩:∃s2,(sig.set ((ins.length:Int)+2*(i:Int)).toNat M).set (IntKind.i64.wrap ((ins.length:Int)+2*(i:Int)+1)).toNat K=s2).elim λs2 tK=>?_
    have e1:((ins.length:Int)+2*(i:Int)).toNat=ins.length+2*i:=by omega
    have bA:Af ⟨ins,blocks,outs,ay⟩ (i+1) s2 o2:=by
     rw [<-tK,<-j5,tI,e1];exact bA
    cbv
    refine ⟨[1,x.bh],⟨.inl ⟨by exact bQ,rfl⟩,by show 2 < 4611686018427387904;decide⟩,?_⟩
    cbv
    refine ⟨⟨xg⟩,?_⟩
    cbv
    refine ⟨(u,K),⟨hu,rfl,by have bm:=hK;exact dy⟩,?_⟩
    cbv
    refine ⟨⟨⟨ins,blocks,outs,ay⟩,i⟩,⟨by exact bQ,gY,h0,Iz⟩,?_⟩
    cbv
    refine ⟨⟨⟨ins,blocks,outs,ay⟩,i⟩,⟨by exact bQ,gY,h0,Iz⟩,?_⟩
    cbv
    refine ⟨[3,x.bh],⟨.inl ⟨by exact bQ,rfl⟩,by show 2 < 4611686018427387904;decide⟩,?_⟩
    cbv
    refine ⟨⟨Xw⟩,K,⟨BQ,rfl⟩,?_⟩
    cbv
    refine ⟨⟨yI⟩,?_⟩
    cbv
    refine ⟨(u2,M),⟨uK,rfl,by have bm:=hM;exact dy⟩,?_⟩
    cbv
    refine ⟨⟨aiI⟩,?_⟩
    cbv
    refine ⟨(u3,K),⟨YU,rfl,by exact aL⟩,?_⟩
    cbv
    exact ⟨(i+1,s2,o2),by exact ao,by have dP:=tK;have kI:=j5;exact bI,⟨⟨bA,a7⟩⟩⟩
   ·have hr:x.bh < 0:=bG
    have bA:=hJ.skip hx hr
    cbv
    exact ⟨(i+1,sig,out),by exact ao,by exact ao,⟨⟨bA,a7⟩⟩⟩
  ·have bS:i=blocks.length:=by
    have h':aS i blocks.length=false:=h.out
    have h2:¬(i:Int) < blocks.length:=by simpa [aS] using h'
    omega
   have Gn:xQ ⟨ins,blocks,outs,ay⟩:=⟨oP,gY,λx hx s hs=>⟨(ej.used x hx s hs).lo,(ej.used x hx s hs).hi⟩,λx hx=>by have:=(ej.formed x hx).k;omega⟩
   have r7:mJ ⟨ins,blocks,outs,ay⟩ [] sig out:=⟨jm,gu,hJ.pC,λb x hx h0=>hJ.bh b x (by rw [bS];exact (bY.1 hx).1) hx h0,λb x _ _ h=>by cases h⟩
   have fe:Wl ⟨⟨ins,blocks,outs,ay⟩,sig,out,rk⟩:=⟨Gn,ej,jD,r7⟩
   cbv
   refine bV.jM aoT (λa y=>trivial) ⟨⟨ins,blocks,outs,ay⟩,sig,out,rk⟩ [0,4,3,6,5,1] rfl (by exact bQ) (by exact ao) ⟨fe⟩ λy hy=>?_
   have hy:y.out=lx ⟨ins,blocks,outs,ay⟩:=hy.out
   cbv
   refine ⟨?_⟩
   cbv
   exact ⟨by exact aL,λx=>rfl⟩
structure agK where
 p:bt
 dc:List Bool
 s:jB
structure Wo (x:agK):Prop where
 ky:De x.p
 il:x.dc.length=x.p.ins.length
@[reducible] noncomputable def Wp:Vc.Spec where
 α:=agK
 args x:=[.agg (fB x.p),.sl 1 jc (λ_=>x.dc),.agg (Dd x.s)]
 pre x:=Wo x
 res x:=.sl 1 jc (λ_=>zu x.p x.dc x.s)
structure xn (p:bt) (dc:List Bool) (s:jB) (i:Nat) (out:List Bool):Prop where
 le:i<=p.blocks.length
 ol:out.length=p.ins.length+2*p.blocks.length
 pC:∀k:Nat,k < p.ins.length->out[k]?=some (dc.getD k false)
 bh:∀(b:Nat) (x:Block),b < i->p.blocks[b]?=some x->out[p.ins.length+2*b+1]?=some (zI s x.bh)
 rest:∀(b:Nat) (x:Block),i<=b->p.blocks[b]?=some x->out[p.ins.length+2*b+1]?=some false
 new:∀(b:Nat) (x:Block),p.blocks[b]?=some x->out[p.ins.length+2*b]?=some false
theorem xn.skip {p:bt} {dc:List Bool} {s:jB} {i:Nat} {out:List Bool} (h:xn p dc s i out) {x:Block} (hx:p.blocks[i]?=some x) (hr:zI s x.bh=false):xn p dc s (i+1) out :=
 ⟨(
  bY.1 hx).1,h.ol,h.pC,λb y hb hy=>by
  by_cases e:b=i
  ·subst e;rw [hx] at hy;cases hy;rw [hr];exact h.rest b x (cR _) hx
  ·exact h.bh b y (by omega) hy,λb y hb hy=>h.rest b y (by omega) hy,h.new⟩
theorem xn.add {p:bt} {dc:List Bool} {s:jB} {i:Nat} {out:List Bool} (h:xn p dc s i out) {x:Block} (hx:p.blocks[i]?=some x) {v:Bool} (hv:v=zI s x.bh):xn p dc s (i+1) (out.set (p.ins.length+2*i+1) v):=by
 have aR:=(bY.1 hx).1
 have gu:=h.ol
 refine ⟨aR,by simp [gu],λk hk=>?_,λb y hb hy=>?_,λb y hb hy=>?_,λb y hy=>?_⟩
 ·rw [eY (by omega)];exact h.pC k hk
 ·by_cases e:b=i
  ·subst e;rw [hx] at hy;cases hy
   rw [jb];simp [hv];omega
  ·rw [eY (by omega)];exact h.bh b y (by omega) hy
 ·rw [eY (by omega)];exact h.rest b y (by omega) hy
 ·rw [eY (by omega)];exact h.new b y hy
theorem xn.start (p:bt) (dc:List Bool) (s:jB) (hl:dc.length=p.ins.length):xn p dc s 0 (dc.take (p.ins.length+2*p.blocks.length)++(List.replicate (p.ins.length+2*p.blocks.length) false).drop dc.length):=by
 have ht:dc.take (p.ins.length+2*p.blocks.length)=dc:=Et (by omega)
 rw [ht,List.drop_replicate]
 have afi:∀k:Nat,p.ins.length<=k->k < p.ins.length+2*p.blocks.length->(dc++List.replicate (p.ins.length+2*p.blocks.length - dc.length) false)[k]?=some false:=λk h1 h2=>by
  rw [u4 (by omega),Hd,if_pos (by omega)]
 refine ⟨cL _,by simp;omega,λk hk=>?_,λb y hb=>by omega,λb y _ hy=>?_,λb y hy=>?_⟩
 ·rw [nY (by omega),ig,ep (by omega)];rfl
 ·have:=(bY.1 hy).1
  exact afi _ (by omega) (by omega)
 ·have:=(bY.1 hy).1
  exact afi _ (by omega) (by omega)
noncomputable def avv (n m:Nat):Ctx:=eF n m [(98,Tryz.f98),(88,Tryz.f88)] [(95,CM)] [88]
theorem afj (n m:Nat):CB PP (avv n m):=eH n m ⟨fo Tryz.func98,fo Tryz.func88,trivial⟩ ⟨EP,trivial⟩
theorem aej:cW (PP ()) 151 Wp:=by
 refine dT (afj 0 0) (fo Tryz.func151) (λa=>⟨kE a.p,(λx=>(tY x).1),Ku a.s,trivial⟩) (λa=>(λx=>(tY x).1)) ?_
 rintro ⟨⟨ins,blocks,outs,ay⟩,dc,⟨aN,bf⟩⟩ hx
 have hx:Wo ⟨⟨ins,blocks,outs,ay⟩,dc,⟨aN,bf⟩⟩:=hx
 have pL:De ⟨ins,blocks,outs,ay⟩:=hx.ky
 have bq:dc.length=ins.length:=hx.il
 have ej:=pL.sh
 have gY:ins.length<=1000000:=pL.ins
 obtain ⟨rk,jD⟩:=pL.rk
 have oP:blocks.length<=600:=ej.dK
 have dA:IntKind.i64.wrap ((ins.length:Int)+IntKind.i64.wrap (2*(blocks.length:Int)))=((ins.length+2*blocks.length:Nat):Int):=by rw [cD (n:=2*(blocks.length:Int)) (by omega) (by omega),cD (by omega) (by omega)];omega
 have eI:0<=IntKind.i64.wrap ((ins.length:Int)+IntKind.i64.wrap (2*(blocks.length:Int)))/\1*IntKind.i64.wrap ((ins.length:Int)+IntKind.i64.wrap (2*(blocks.length:Int)))<=281474976710656/\IntKind.i64.wrap ((ins.length:Int)+IntKind.i64.wrap (2*(blocks.length:Int)))<=9223372036854775807:=by rw [dA];omega
 obtain ⟨s0,Gr⟩:∃s0,dc.take (List.replicate (IntKind.i64.wrap ((ins.length:Int)+IntKind.i64.wrap (2*(blocks.length:Int)))).toNat false).length++(List.replicate (IntKind.i64.wrap ((ins.length:Int)+IntKind.i64.wrap (2*(blocks.length:Int)))).toNat false).drop dc.length=s0:=⟨_,rfl⟩
 have tN:xn ⟨ins,blocks,outs,ay⟩ dc ⟨aN,bf⟩ 0 s0:=by
  rw [<-Gr,dA,si,pf]
  exact xn.start ⟨ins,blocks,outs,ay⟩ dc ⟨aN,bf⟩ bq
 refine ⟨?_⟩
 cbv
 refine ⟨⟨eI.1,jR _,eI.2.1,eI.2.2⟩,?_⟩
 cbv
 refine ⟨dc,⟨.sl rfl⟩,?_⟩
 cbv
 refine Sat.cd (afj 0 0) 6 9 [] (λx:Nat × List Bool=>[(20,.sl 5 oD (λ_=>blocks)),(21,.i .i64 (λ_=>(blocks.length:Int))),(22,.i .i64 (λ_=>(x.1:Int)))]) (λx=>[(4,.dyn 4 1 jc (λ_=>x.2))])
  (λx=>xn ⟨ins,blocks,outs,ay⟩ dc ⟨aN,bf⟩ x.1 x.2) (λx=>blocks.length - x.1) (0,s0) (by exact ao) (by have dP:=Gr;exact bI) tN ?_
 rintro ⟨i,out⟩ hJ
 have hJ:xn ⟨ins,blocks,outs,ay⟩ dc ⟨aN,bf⟩ i out:=hJ
 have hi:i<=blocks.length:=hJ.le
 have gu:out.length=ins.length+2*blocks.length:=hJ.ol
 have h0:=n0 i
 have h1:=cj (i:=i) (by omega)
 cbv
 refine ⟨λh=>?_,λh=>?_⟩
 ·have bq:i < blocks.length:=bG
  have a7:blocks.length - (i+1) < blocks.length - i:=by omega
  refine (bB bq).elim λx hx=>?_
  have hxr:x.bh<=255:=(ej.formed x (cb hx)).bh.2
  have Iz:(i:Int)<=1000000:=by omega
  have tI:IntKind.i64.wrap ((ins.length:Int)+2*(i:Int)+1)=((ins.length+2*i+1:Nat):Int):=by rw [cD (by omega) (by omega)];omega
  have yI:0<=IntKind.i64.wrap ((ins.length:Int)+2*(i:Int)+1)/\(IntKind.i64.wrap ((ins.length:Int)+2*(i:Int)+1)).toNat < out.length:=by rw [tI];omega
  have qZ:(IntKind.i64.wrap ((ins.length:Int)+2*(i:Int)+1)).toNat=ins.length+2*i+1:=by rw [tI];omega
  refine (bB yI.2).elim λu hu=>?_
  have hq:0<=x.bh->IntKind.i64.wrap (x.bh.tdiv 8)=x.bh / 8:=λh=>by rw [Ay h];exact cD (by omega) (by omega)
  have Gq:0<=x.bh->x.bh.tmod 8=x.bh % 8:=λh=>xD h
  have IS:∀v,0<=x.bh->x.bh / 8 < (aN.length:Int)->aN[(x.bh / 8).toNat]?=some v->zI ⟨aN,bf⟩ x.bh=FN v (x.bh % 8):=λv h0 h1 h2=>by
   unfold zI
   simp only
   rw [ig,h2]
   simp [h0,h1]
  have MV:x.bh < 0\/¬x.bh / 8 < (aN.length:Int)->zI ⟨aN,bf⟩ x.bh=false:=λh=>by
   unfold zI
   simp only
   rcases h with h|h
   ·have:¬0<=x.bh:=by omega
    simp [this]
   ·simp [h]
  cbv
  refine ⟨x,⟨h0,hx⟩,?_⟩
  cbv
  refine ⟨λh=>?_,λh=>?_⟩
  ·have hr:0<=x.bh:=bG
   have hq:=hq hr
   have Gq:=Gq hr
   cbv
   refine ⟨⟨by decide⟩,λh=>?_,λh=>?_⟩
   ·have aR:x.bh / 8 < (aN.length:Int):=by have h':aS (IntKind.i64.wrap (x.bh.tdiv 8)) (aN.length:Int)=true:=h.out;rw [hq] at h';simpa [aS] using h'
    have wF:(x.bh / 8).toNat < aN.length:=by omega
    refine (bB wF).elim λv hv=>?_
    have DB:0<=IntKind.i64.wrap (x.bh.tdiv 8)/\aN[(IntKind.i64.wrap (x.bh.tdiv 8)).toNat]?=some v:=by rw [hq];exact ⟨by omega,hv⟩
    have XJ:0<=x.bh.tmod 8:=by rw [Gq];omega
    obtain ⟨r,sM⟩:∃r,aV (kT .and .i64 (v.fdiv (2^(min (x.bh.tmod 8).toNat IntKind.i64.bits))) 1) 1=r:=⟨_,rfl⟩
    have hrr:r=zI ⟨aN,bf⟩ x.bh:=by rw [IS v hr aR hv,<-sM,Gq];rfl
    have bA:=hJ.add hx hrr
    obtain ⟨o2,j5⟩:∃o,out.set (IntKind.i64.wrap ((ins.length:Int)+2*(i:Int)+1)).toNat r=o:=⟨_,rfl⟩
    rw [show (⟨ins,blocks,outs,ay⟩:bt).ins.length+2*i+1=(IntKind.i64.wrap ((ins.length:Int)+2*(i:Int)+1)).toNat from qZ.symm,j5] at bA
    cbv
    refine ⟨⟨⟨ins,blocks,outs,ay⟩,(i:Int)⟩,⟨by exact bQ,gY,h0,Iz⟩,?_⟩
    cbv
    refine ⟨⟨by decide⟩,v,⟨DB⟩,?_⟩
    cbv
    refine ⟨⟨by decide⟩,⟨XJ⟩,⟨yI⟩,?_⟩
    cbv
    refine ⟨(u,r),⟨hu,rfl,by have jW:=sM;exact dy⟩,?_⟩
    cbv
    exact ⟨(i+1,o2),by exact ao,by have dP:=j5;exact bI,⟨⟨bA,a7⟩⟩⟩
   ·have avw:¬x.bh / 8 < (aN.length:Int):=by have h':aS (IntKind.i64.wrap (x.bh.tdiv 8)) (aN.length:Int)=false:=h.out;rw [hq] at h';simpa [aS] using h'
    have bA:=hJ.skip hx (MV (.inr avw))
    cbv
    exact ⟨(i+1,out),by exact ao,by exact ao,⟨⟨bA,a7⟩⟩⟩
  ·have hr:x.bh < 0:=bG
   have bA:=hJ.skip hx (MV (.inl hr))
   cbv
   exact ⟨(i+1,out),by exact ao,by exact ao,⟨⟨bA,a7⟩⟩⟩
 ·have bS:i=blocks.length:=by
   have h':aS i blocks.length=false:=h.out
   have h2:¬(i:Int) < blocks.length:=by simpa [aS] using h'
   omega
  have Gn:xQ ⟨ins,blocks,outs,ay⟩:=⟨oP,gY,λx hx s hs=>⟨(ej.used x hx s hs).lo,(ej.used x hx s hs).hi⟩,λx hx=>by have:=(ej.formed x hx).k;omega⟩
  have r7:mT ⟨ins,blocks,outs,ay⟩ dc ⟨aN,bf⟩ [] out:=⟨gu,hJ.pC,λb x hx=>hJ.bh b x (by rw [bS];exact (bY.1 hx).1) hx,λb x _ h=>(by cases h),λb x hx _=>hJ.new b x hx⟩
  have fe:Wm ⟨⟨ins,blocks,outs,ay⟩,out,rk,dc,⟨aN,bf⟩⟩:=⟨Gn,ej,jD,r7⟩
  cbv
  refine bV.jM aoU (λa y=>trivial) ⟨⟨ins,blocks,outs,ay⟩,out,rk,dc,⟨aN,bf⟩⟩ [0,5,4,2,1] rfl (by exact bQ) (by exact ao) ⟨fe⟩ λy hy=>?_
  have hy:y=zu ⟨ins,blocks,outs,ay⟩ dc ⟨aN,bf⟩:=hy.out
  cbv
  exact ⟨by have dJ:=hy;exact dy⟩
@[reducible] noncomputable def agL:Vc.Spec where
 α:=jB
 args s:=[.agg (Dd s),.agg (Dd s)]
 pre s:=s.aN.length<=1000000/\s.bf.length<=1000000/\∀m∈s.bf,m.length<=1000000
 res s:=.b (λ_=>true)
noncomputable def cSs (n m:Nat):Ctx:=eF n m [] [(180,V0)]
theorem agM (n m:Nat):CB PP (cSs n m):=eH n m trivial ⟨aea,trivial⟩
theorem ap4:cW (PP ()) 90 agL:=by
 refine dT (agM 0 0) (fo Tryz.func90) (λa=>⟨Ku a,Ku a,trivial⟩) (λa=>trivial) ?_
 rintro ⟨aN,bf⟩ hx
 obtain ⟨Gd,hm6,DM⟩:aN.length<=1000000/\bf.length<=1000000/\∀m∈bf,m.length<=1000000:=hx
 have hpr:(⟨aN,aN⟩:nK Int).a.length<=1000000000000/\(⟨aN,aN⟩:nK Int).b.length<=1000000000000:=⟨by show aN.length<=_;omega,by show aN.length<=_;omega⟩
 have yj:(!jE aN aN)=true->False:=λh=>by rw [s9.2 rfl] at h;cases h
 have Bu:(!aV (bf.length:Int) (bf.length:Int))=true->False:=λh=>by simp [aV] at h
 refine ⟨?_⟩
 cbv
 refine ⟨⟨aN,aN⟩,⟨by exact bQ,hpr⟩,?_⟩
 cbv
 refine ⟨λh=>?_,λh=>?_⟩
 ·have hF:=yj h.out
  cases hF
 clear h
 cbv
 refine ⟨λh=>?_,λh=>?_⟩
 ·have hF:=Bu h.out
  cases hF
 clear h
 cbv
 refine Sat.cd (agM 0 0) 2 5 [] (λi:Nat=>[(5,.i .i64 (λ_=>(i:Int)))]) (λi=>[]) (λi=>i<=bf.length) (λi=>bf.length - i) 0 (by exact ao) (by exact ao) (cL _) ?_
 intro i hi
 have hi:i<=bf.length:=hi
 have h0:=n0 i
 have h1:=cj (i:=i) (by omega)
 cbv
 refine ⟨λh=>?_,λh=>?_⟩
 ·have bq:i < bf.length:=bG
  have a7:bf.length - (i+1) < bf.length - i:=by omega
  refine (bB bq).elim λm hm=>?_
  have eI:=DM m (cb hm)
  have Ag:(⟨m,m⟩:nK Int).a.length<=1000000000000/\(⟨m,m⟩:nK Int).b.length<=1000000000000:=⟨by show m.length<=_;omega,by show m.length<=_;omega⟩
  have z7:(!jE m m)=true->False:=λh=>by rw [s9.2 rfl] at h;cases h
  cbv
  refine ⟨m,⟨h0,hm⟩,?_⟩
  cbv
  refine ⟨m,⟨h0,hm⟩,?_⟩
  cbv
  refine ⟨⟨m,m⟩,⟨by exact bQ,Ag⟩,?_⟩
  cbv
  refine ⟨λh=>?_,λh=>?_⟩
  ·have hF:=z7 h.out
   cases hF
  clear h
  cbv
  exact ⟨i+1,by exact ao,by exact ao,⟨⟨bq,a7⟩⟩⟩
 ·cbv
  exact ⟨by exact aL⟩
def L3 (f:Pr):List SV:=[.b (λ_=>f.asz),.sl 1 bK (λ_=>f.s.aN),.sl 1 jd (λ_=>f.s.bf),.sl 1 jc (λ_=>f.tr),.sl 2 Ff (λ_=>f.ec)]
theorem O0 (f:Pr):du (L3 f):=⟨trivial,λx=>(cP x).1,λx=>(qa x).1,λx=>(tY x).1,λx=>(Ox x).1,trivial⟩
structure XM (f:Pr):Prop where
 aN:f.s.aN.length<=1000000
 bf:f.s.bf.length<=1000000
 Rw:∀m∈f.s.bf,m.length<=1000000
 tr:f.tr.length<=1000000
 ec:f.ec=[]
@[reducible] noncomputable def agN:Vc.Spec where
 α:=Pr
 args f:=[.agg (L3 f),.agg (L3 f)]
 pre f:=XM f
 res f:=.b (λ_=>true)
noncomputable def cSf (n m:Nat):Ctx:=eF n m [] [(90,agL)]
theorem Wq (n m:Nat):CB PP (cSf n m):=eH n m trivial ⟨ap4,trivial⟩
theorem ap5:cW (PP ()) 21 agN:=by
 refine dT (Wq 0 0) (fo Tryz.func21) (λa=>⟨O0 a,O0 a,trivial⟩) (λa=>trivial) ?_
 rintro ⟨fi,⟨aN,bf⟩,tr,ec⟩ hx
 have hx:XM ⟨fi,⟨aN,bf⟩,tr,ec⟩:=hx
 have hss:(⟨aN,bf⟩:jB).aN.length<=1000000/\(⟨aN,bf⟩:jB).bf.length<=1000000/\∀m∈(⟨aN,bf⟩:jB).bf,m.length<=1000000:=⟨hx.aN,hx.bf,hx.Rw⟩
 have oT:tr.length<=1000000:=hx.tr
 have Gf:ec=[]:=hx.ec
 subst Gf
 have z9:(!(fi == fi))=true->False:=λh=>by simp at h
 have Dj:(!aV (tr.length:Int) (tr.length:Int))=true->False:=λh=>by simp [aV] at h
 have Di:(!aV (([]:List Head).length:Int) (([]:List Head).length:Int))=true->False:=λh=>by simp [aV] at h
 refine ⟨?_⟩
 cbv
 refine ⟨λh=>?_,λh=>?_⟩
 ·have hF:=z9 h.out
  cases hF
 clear h
 cbv
 refine ⟨⟨aN,bf⟩,⟨by exact bQ,hss⟩,?_⟩
 cbv
 refine ⟨λh=>?_,λh=>?_⟩
 ·have hF:False:=by have h:=h.out;simp at h
  cases hF
 clear h
 cbv
 refine ⟨λh=>?_,λh=>?_⟩
 ·have hF:=Dj h.out
  cases hF
 clear h
 cbv
 refine ⟨λh=>?_,λh=>?_⟩
 ·have hF:=Di h.out
  cases hF
 clear h
 cbv
 refine Sat.cd (Wq 0 0) 2 5 [] (λi:Nat=>[(5,.i .i64 (λ_=>(i:Int)))]) (λi=>[]) (λi=>i<=tr.length) (λi=>tr.length - i) 0 (by exact ao) (by exact ao) (cL _) ?_
 intro i hi
 have hi:i<=tr.length:=hi
 have h0:=n0 i
 have h1:=cj (i:=i) (by omega)
 cbv
 refine ⟨λh=>?_,λh=>?_⟩
 ·have bq:i < tr.length:=bG
  have a7:tr.length - (i+1) < tr.length - i:=by omega
  refine (bB bq).elim λm hm=>?_
  have uz:(!(m == m))=true->False:=λh=>by simp at h
  cbv
  refine ⟨m,⟨h0,hm⟩,?_⟩
  cbv
  refine ⟨m,⟨h0,hm⟩,?_⟩
  cbv
  refine ⟨λh=>?_,λh=>?_⟩
  ·have hF:=uz h.out
   cases hF
  clear h
  cbv
  exact ⟨i+1,by exact ao,by exact ao,⟨⟨bq,a7⟩⟩⟩
 clear h h0 h1 hi
 cbv
 refine Sat.Hr (Wq 0 0) 0 ?_
 cbv
 refine ⟨λh=>?_,λh=>?_⟩
 ·have hF:False:=by have h:=h.out;simp [aS] at h
  cases hF
 ·cbv
  exact ⟨by exact aL⟩
structure avx where
 s:jB
 agO:List Head
 agP:List Bool
@[reducible] noncomputable def Wr:Vc.Spec where
 α:=avx
 args x:=[.agg [.sl 3 dk (λ_=>[]),.dp,.dp,.dp],.agg (Dd x.s),.sl 2 Ff (λ_=>x.agO),.sl 1 jc (λ_=>x.agP)]
 pre x:=True
 res x:=.sl 1 jc (λ_=>[])
noncomputable def cIp (n m:Nat):Ctx:=eF n m [] []
theorem agQ (n m:Nat):CB PP (cIp n m):=eH n m trivial trivial
theorem aek:cW (PP ()) 62 Wr:=by
 refine dT (agQ 0 0) (fo Tryz.func62) (λa=>⟨⟨(λx=>(gU x).1),trivial,trivial,trivial,trivial⟩,Ku a.s,(λx=>(Ox x).1),(λx=>(tY x).1),trivial⟩) (λa=>(λx=>(tY x).1)) ?_
 rintro ⟨⟨aN,bf⟩,agO,agP⟩ hx
 clear hx
 refine ⟨?_⟩
 cbv
 refine ⟨⟨by decide⟩,?_⟩
 cbv
 refine Sat.Hr (agQ 0 0) 0 ?_
 cbv
 refine ⟨λh=>?_,λh=>?_⟩
 ·have hF:False:=by have h:=h.out;simp [aS] at h
  cases hF
 ·cbv
  exact ⟨by exact aL⟩
structure aiJ where
 outs:List bU
 dr:List Int
 aN:List Int
 vals:List Bool
 z:List Int
structure XN (x:aiJ):Prop where
 dK:x.outs.length<=1000000
 XO:x.aN.length<=1000000
 len:x.vals.length=x.outs.length
 no:∀v∈x.vals,v=false
 z:x.z=List.replicate x.aN.length 0
@[reducible] noncomputable def Ws:Vc.Spec where
 α:=aiJ
 args x:=[.agg [.dp,.dp,.sl 3 dk (λ_=>x.outs),.sl 1 bK (λ_=>x.dr)],.agg [.sl 1 bK (λ_=>x.aN),.sl 1 jd (λ_=>[])],.sl 1 jc (λ_=>x.vals),.agg [.i .i64 (λ_=>0),.i .i64 (λ_=>0)]]
 pre x:=XN x
 res x:=.agg (L3 ⟨false,⟨x.z,[]⟩,[],[]⟩)
noncomputable def cEf (n m:Nat):Ctx:=eF n m [] []
theorem HZ (n m:Nat):CB PP (cEf n m):=eH n m trivial trivial
theorem ael:cW (PP ()) 63 Ws:=by
 refine dT (HZ 0 0) (fo Tryz.func63) (λa=>⟨⟨trivial,trivial,(λx=>(gU x).1),(λx=>(cP x).1),trivial⟩,⟨(λx=>(cP x).1),(λx=>(qa x).1),trivial⟩,(λx=>(tY x).1),⟨trivial,trivial,trivial⟩,trivial⟩) (λa=>O0 _) ?_
 rintro ⟨outs,dr,aN,vals,Zr⟩ hx
 have hx:XN ⟨outs,dr,aN,vals,Zr⟩:=hx
 have MP:outs.length<=1000000:=hx.dK
 have Gd:aN.length<=1000000:=hx.XO
 have mK:vals.length=outs.length:=hx.len
 have eA:∀v∈vals,v=false:=hx.no
 have Zj:Zr=List.replicate aN.length 0:=hx.z
 refine ⟨?_⟩
 cbv
 refine Sat.cd (HZ 0 0) 6 11 [] (λi:Nat=>[(24,.sl 3 dk (λ_=>outs)),(25,.i .i64 (λ_=>(outs.length:Int))),(26,.i .i64 (λ_=>(i:Int)))]) (λi=>[]) (λi=>i<=outs.length) (λi=>outs.length - i) 0 (by exact ao) (by exact ao) (cL _) ?_
 intro i hi
 have hi:i<=outs.length:=hi
 have h0:=n0 i
 have h1:=cj (i:=i) (by omega)
 cbv
 refine ⟨λh=>?_,λh=>?_⟩
 ·have bq:i < outs.length:=bG
  have a7:outs.length - (i+1) < outs.length - i:=by omega
  refine (bB bq).elim λw hw=>?_
  refine (bB (l:=vals) (i:=i) (by omega)).elim λv hv=>?_
  have Zc:=eA v (cb hv)
  cbv
  refine ⟨w,⟨h0,hw⟩,?_⟩
  cbv
  refine ⟨v,⟨h0,hv⟩,?_⟩
  cbv
  refine ⟨λh=>?_,λh=>?_⟩
  ·have hF:False:=by have h:=h.out;rw [Zc] at h;cases h
   cases hF
  clear h
  cbv
  exact ⟨i+1,by exact ao,by exact ao,⟨⟨bq,a7⟩⟩⟩
 clear h h0 h1 hi
 obtain ⟨Z,hZ⟩:∃Z:Nat->List Int,∀i,Z i=List.replicate i 0:=⟨_,λ_=>rfl⟩
 have hZ0:[]=Z 0:=by rw [hZ];rfl
 cbv
 refine Sat.iH 6 1 3 1 n8 cP rfl rfl ?_
 cbv
 refine Sat.cd (HZ 0 0) 8 14 [(.c 6 1,7)] (λi:Nat=>[(56,.sl 1 bK (λ_=>aN)),(57,.i .i64 (λ_=>(aN.length:Int))),(58,.i .i64 (λ_=>(i:Int)))]) (λi=>[(7,.dyn 3 1 bK (λ_=>Z i))]) (λi=>i<=aN.length) (λi=>aN.length - i) 0 (by exact ao) (by have dP:=hZ0;exact bI) (cL _) ?_
 intro j hj
 have hj:j<=aN.length:=hj
 have h0:=n0 j
 have h1:=cj (i:=j) (by omega)
 cbv
 refine ⟨λh=>?_,λh=>?_⟩
 ·have eE:j < aN.length:=bG
  have a7:aN.length - (j+1) < aN.length - j:=by omega
  have hZs:Z j++[0]=Z (j+1):=by rw [hZ,hZ,List.replicate_succ']
  have hZl:(Z j).length=j:=by rw [hZ,si]
  have ef:((Z j).length+1)*8<=140737488355328:=by omega
  have nj:(Z j).length+1<=9223372036854775807:=by omega
  cbv
  refine ⟨some none,⟨rfl⟩,?_⟩
  cbv
  refine ⟨[0],⟨by exact bQ,ef,nj⟩,?_⟩
  cbv
  exact ⟨j+1,by exact ao,by have dP:=hZs;exact bI,⟨⟨eE,a7⟩⟩⟩
 have bS:j=aN.length:=by
  have h':aS j aN.length=false:=h.out
  have h2:¬(j:Int) < aN.length:=by simpa [aS] using h'
  omega
 have hZe:Z j=Zr:=by rw [hZ,bS,Zj]
 clear h h0 h1 hj
 cbv
 refine Sat.Hr (HZ 0 0) 0 ?_
 cbv
 refine ⟨λh=>?_,λh=>?_⟩
 ·have hF:False:=by have h:=h.out;simp [aS] at h
  cases hF
 clear h
 cbv
 refine Sat.Hr (HZ 0 0) 0 ?_
 cbv
 refine ⟨λh=>?_,λh=>?_⟩
 ·have hF:False:=by have h:=h.out;simp [aS] at h
  cases hF
 clear h
 cbv
 refine Sat.Hr (HZ 0 0) 0 ?_
 cbv
 refine ⟨λh=>?_,λh=>?_⟩
 ·have hF:False:=by have h:=h.out;simp [aS] at h
  cases hF
 clear h
 cbv
 exact ⟨by have dJ:=hZe;exact dy⟩
end Go.Proofs.Pk
