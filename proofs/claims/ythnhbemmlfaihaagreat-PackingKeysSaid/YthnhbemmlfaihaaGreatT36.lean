import Derived.Test.YthnhbemmlfaihaaGreatT12
import Derived.Test.YthnhbemmlfaihaaGreatT35
set_option linter.unusedVariables false
set_option linter.unusedSimpArgs false
set_option maxRecDepth 10000
set_option maxHeartbeats 64000000
namespace Go.Proofs.Pk
open Go Go.Vc
structure Wb where
 p:bt
 b:Int
 done:List Bool
structure Wc (x:Wb):Prop where
 g:Iy x.p x.b
 dl:x.done.length=x.p.blocks.length
noncomputable def CA (x:Wb):Bool:=match x.p.blocks[x.b.toNat]? with
 | some z=>AY x.p z x.done
 | none=>true
@[reducible] noncomputable def ae8:Vc.Spec where
 α:=Wb
 args x:=[.agg (fB x.p),.i .i64 (λ_=>x.b),.sl 1 jc (λ_=>x.done)]
 pre x:=Wc x
 res x:=.b (λ_=>CA x)
noncomputable def cRy (n m:Nat):Ctx:=eF n m [] [(174,OY),(173,Vu)]
theorem agq (n m:Nat):CB PP (cRy n m):=eH n m trivial ⟨TT,ac7,trivial⟩
theorem aoJ:cW (PP ()) 175 ae8:=by
 refine dT (agq 0 0) (fo Tryz.func175) (λa=>⟨kE a.p,trivial,(λx=>(tY x).1),trivial⟩) (λa=>trivial) ?_
 rintro ⟨⟨ins,blocks,outs,ay⟩,b,done⟩ hx
 have hx:Wc ⟨⟨ins,blocks,outs,ay⟩,b,done⟩:=hx
 have hg:=hx.g
 have ej:=hg.sh
 have gY:ins.length<=1000000:=hg.ins
 have ei:0<=b:=hg.lo
 have eb:b < blocks.length:=hg.hi
 have fV:done.length=blocks.length:=hx.dl
 have oP:blocks.length<=600:=ej.dK
 obtain ⟨x,oZ⟩:=bB (l:=blocks) (i:=b.toNat) (by omega)
 have gW:=cb oZ
 have hk:x.ins.length<=4:=(ej.formed x gW).k
 have pD:∀s∈x.ins,kD ⟨ins,blocks,outs,ay⟩ s:=ej.used x gW
 have RJ:CA ⟨⟨ins,blocks,outs,ay⟩,b,done⟩=AY ⟨ins,blocks,outs,ay⟩ x done:=by unfold CA;simp only;rw [oZ]
 obtain ⟨f,hf⟩:∃f,f=Wa ⟨ins,blocks,outs,ay⟩ done:=⟨_,rfl⟩
 have hrf:CA ⟨⟨ins,blocks,outs,ay⟩,b,done⟩=!x.ins.any f:=by rw [RJ,hf];rfl
 clear hx hg
 refine ⟨?_⟩
 cbv
 refine Sat.cd (agq 0 0) 1 7 [] (λi:Nat=>[(7,.i .i64 (λ_=>(i:Int)))]) (λi=>[]) (λi=>i<=x.ins.length/\(x.ins.take i).any f=false) (λi=>x.ins.length - i) 0 (by exact ao) (by exact ao) ⟨cL _,by simp⟩ ?_
 rintro i ⟨hi,ht⟩
 have h0:=n0 i
 have h1:=cj (i:=i) (by omega)
 cbv
 refine ⟨x,⟨ei,oZ⟩,?_⟩
 cbv
 refine ⟨λh=>?_,λh=>?_⟩
 ·have bq:i < x.ins.length:=bG
  have a7:x.ins.length - (i+1) < x.ins.length - i:=by omega
  refine (bB bq).elim λs hs=>?_
  have hu:=pD s (cb hs)
  have avl:=hu.lo
  have aBp:s < (ins.length:Int)+2*(blocks.length:Int):=hu.hi
  have DL:FQ ⟨ins,blocks,outs,ay⟩ s:=⟨gY,avl,by omega⟩
  have Ab:f s=(cU 0 (mb ⟨ins,blocks,outs,ay⟩ s)&&(!rN ⟨ins,blocks,outs,ay⟩ s&&!(done.getD (mb ⟨ins,blocks,outs,ay⟩ s).toNat false))):=by rw [hf];rfl
  have Wd:f s=false->i+1<=x.ins.length/\(x.ins.take (i+1)).any f=false:=λh=>⟨bq,by rw [OF hs,ht,h];rfl⟩
  have CQ:0<=mb ⟨ins,blocks,outs,ay⟩ s->(mb ⟨ins,blocks,outs,ay⟩ s).toNat < done.length:=λh=>by
   unfold mb at h ⊢
   split at h
   ·omega
   ·rename_i bS;rw [if_neg bS,fV];simp only at bS ⊢;unfold cN;omega
  obtain ⟨B,hB⟩:∃B,mb ⟨ins,blocks,outs,ay⟩ s=B:=⟨_,rfl⟩
  obtain ⟨Fl,Y5⟩:∃Fl,rN ⟨ins,blocks,outs,ay⟩ s=Fl:=⟨_,rfl⟩
  rw [hB,Y5] at Ab
  rw [hB] at CQ
  cbv
  refine ⟨x,⟨ei,oZ⟩,?_⟩
  cbv
  refine ⟨s,⟨h0,hs⟩,?_⟩
  cbv
  refine ⟨⟨⟨ins,blocks,outs,ay⟩,s⟩,⟨by exact bQ,DL⟩,?_⟩
  cbv
  refine ⟨λh=>?_,λh=>?_⟩
  ·have rZ:cU 0 B=true:=by have h':cU 0 (mb ⟨ins,blocks,outs,ay⟩ s)=true:=h.out;rw [hB] at h';exact h'
   have Jg:0<=B:=by simpa [cU] using rZ
   cbv
   refine ⟨⟨⟨ins,blocks,outs,ay⟩,s⟩,⟨by exact bQ,DL⟩,?_⟩
   cbv
   refine ⟨λh=>?_,λh=>?_⟩
   ·have vC:Fl=false:=by have h':(!rN ⟨ins,blocks,outs,ay⟩ s)=true:=h.out;rw [Y5] at h';simpa using h'
    refine (bB (CQ Jg)).elim λv hv=>?_
    have gE:0<=mb ⟨ins,blocks,outs,ay⟩ s/\done[(mb ⟨ins,blocks,outs,ay⟩ s).toNat]?=some v:=by rw [hB];exact ⟨Jg,hv⟩
    have Y2:f s=!v:=by rw [Ab,rZ,vC,ig,hv];rfl
    cbv
    refine ⟨⟨⟨ins,blocks,outs,ay⟩,s⟩,⟨by exact bQ,DL⟩,?_⟩
    cbv
    refine ⟨v,⟨gE⟩,?_⟩
    cbv
    refine ⟨λh=>?_,λh=>?_⟩
    ·have yk:f s=true:=by rw [Y2];exact h.out
     have e:false=CA ⟨⟨ins,blocks,outs,ay⟩,b,done⟩:=by rw [hrf,Ps hs yk];rfl
     cbv
     exact ⟨by exact aL⟩
    ·have yk:f s=false:=by rw [Y2];exact h.out
     have bA:=Wd yk
     cbv
     exact ⟨i+1,by exact ao,by exact ao,⟨⟨bA,a7⟩⟩⟩
   ·have vC:Fl=true:=by have h':(!rN ⟨ins,blocks,outs,ay⟩ s)=false:=h.out;rw [Y5] at h';simpa using h'
    have bA:=Wd (by rw [Ab,vC];simp)
    cbv
    exact ⟨i+1,by exact ao,by exact ao,⟨⟨bA,a7⟩⟩⟩
  ·have rZ:cU 0 B=false:=by have h':cU 0 (mb ⟨ins,blocks,outs,ay⟩ s)=false:=h.out;rw [hB] at h';exact h'
   have bA:=Wd (by rw [Ab,rZ];rfl)
   cbv
   exact ⟨i+1,by exact ao,by exact ao,⟨⟨bA,a7⟩⟩⟩
 ·have bS:i=x.ins.length:=by
   have h':aS i x.ins.length=false:=h.out
   have h2:¬(i:Int) < x.ins.length:=by simpa [aS] using h'
   omega
  have e:true=CA ⟨⟨ins,blocks,outs,ay⟩,b,done⟩:=by rw [hrf];rw [bS,kC] at ht;rw [ht];rfl
  cbv
  exact ⟨by exact aL⟩
structure QR where
 i:Nat
 out:List Int
 done:List Bool
structure Ac (p:bt) (x:QR):Prop where
 le:x.i<=p.blocks.length
 dl:x.done.length=p.blocks.length
 ol:x.out.length=kX x.done
 lo:x.i<=kX x.done
 lt:kX x.done < p.blocks.length\/p.blocks.length=0
structure Y6 (p:bt) (d0:List Bool) (b0:Nat) (x:QR):Prop where
 le:x.i<=p.blocks.length
 up:vq d0 x.done
 ol:x.out.length=kX x.done
 b:b0 < x.i->x.done[b0]?=some true
structure aio (p:bt):Prop where
 sh:Shape p
 rk:∃r,jH p r
 ins:p.ins.length<=1000000
noncomputable def Lc (p:bt) (s:List Int × List Bool) (b:Nat):List Int × List Bool:=match p.blocks[b]? with
 | some x=>match s.2[b]? with
  | some false=>if AY p x s.2=true then (s.1++[(b:Int)],s.2.set b true) else s
  | _=>s
 | none=>s
noncomputable def ue (p:bt) (b:Nat) (s:List Int × List Bool):List Int × List Bool:=(List.range b).foldl (Lc p) s
theorem aaQ (p:bt) (b:Nat) (s:List Int × List Bool):ue p (b+1) s=Lc p (ue p b s) b:=by
 unfold ue;rw [Tp,N3];rfl
noncomputable def zi (p:bt):Nat->List Int × List Bool->List Int
 | 0,s=>s.1
 | k+1,s=>if (ue p p.blocks.length s).1.length=p.blocks.length then (ue p p.blocks.length s).1 else zi p k (ue p p.blocks.length s)
noncomputable def HI (p:bt):List Int:=zi p p.blocks.length ([],List.replicate p.blocks.length false)
theorem Y7 {p:bt} {rk:Nat->Nat} (jD:jH p rk) (hs:∀x∈p.blocks,∀s∈x.ins,0<=s/\s < p.sigs) {i:Nat} {out:List Int} {done:List Bool} (hJ:Ac p ⟨i,out,done⟩) {b0:Nat} (ei:done[b0]?=some false/\∀c:Nat,done[c]?=some false->rk b0<=rk c):∀b,b<=p.blocks.length->Y6 p done b0 ⟨b,(ue p b (out,done)).1,(ue p b (out,done)).2⟩
 | 0,_=>⟨cL _,.refl _,hJ.ol,λh=>by simp only at h;omega⟩
 | b+1,eb=>by
  have hK:=Y7 jD hs hJ ei b (by omega)
  rw [aaQ]
  obtain ⟨⟨dG,d⟩,Y8⟩:∃s,ue p b (out,done)=s:=⟨_,rfl⟩
  rw [Y8] at hK ⊢
  have q9:vq done d:=hK.up
  have LY:dG.length=kX d:=hK.ol
  have hbd:b0 < b->d[b0]?=some true:=hK.b
  have fV:done.length=p.blocks.length:=hJ.dl
  have hx:p.blocks[b]?=some p.blocks[b]:=ep eb
  have HL:(b=b0->d[b0]?=some true)->Y6 p done b0 ⟨b+1,dG,d⟩:=λh=>⟨eb,q9,LY,λaR=>by
   simp only at aR
   by_cases e:b=b0
   ·exact h e
   ·exact hbd (by omega)⟩
  unfold Lc
  rw [hx]
  simp only
  split
  ·rename_i hv
   split
   ·refine ⟨eb,q9.set b,by simp only;rw [aee hv];simp [LY],λaR=>?_⟩
    simp only at aR ⊢
    by_cases e:b=b0
    ·subst e;rw [jb];simp;have:=q9.1;omega
    ·rw [eY e];exact hbd (by omega)
   ·rename_i Y9
    exact HL λe=>by
     subst e
     exact absurd (amD jD fV q9 ei.2 hx (hs _ (En eb))) Y9
  ·rename_i hv
   refine HL λe=>?_
   subst e
   have aR:b < d.length:=by have:=q9.1;omega
   have MO:d[b]?=some d[b]:=ep aR
   cases w8:d[b] with
   | true=>rw [MO,w8]
   | false=>exact absurd (by rw [MO,w8]) (hv ·)
theorem ac8 {p:bt} {rk:Nat->Nat} (jD:jH p rk) (hs:∀x∈p.blocks,∀s∈x.ins,0<=s/\s < p.sigs) {i:Nat} {out:List Int} {done:List Bool} (hJ:Ac p ⟨i,out,done⟩) (hi:i < p.blocks.length) :
  (ue p p.blocks.length (out,done)).1.length=p.blocks.length\/Ac p ⟨i+1,(ue p p.blocks.length (out,done)).1,(ue p p.blocks.length (out,done)).2⟩:=by
 have fa:i<=kX done:=hJ.lo
 have fV:done.length=p.blocks.length:=hJ.dl
 have aR:kX done < p.blocks.length\/p.blocks.length=0:=hJ.lt
 obtain ⟨b0,ei⟩:=least (r:=rk) (done:=done) (by omega)
 have hK:=Y7 jD hs hJ ei _ (cR _)
 obtain ⟨⟨dG,d⟩,Y8⟩:∃s,ue p p.blocks.length (out,done)=s:=⟨_,rfl⟩
 rw [Y8] at hK ⊢
 have q9:vq done d:=hK.up
 have LY:dG.length=kX d:=hK.ol
 have avm:b0 < p.blocks.length:=by have:=(bY.1 ei.1).1;omega
 have ql:=arc q9 ei.1 (hK.b avm)
 have Re:=UW d
 have LP:d.length=p.blocks.length:=by rw [q9.1];exact fV
 by_cases e:dG.length=p.blocks.length
 ·exact .inl e
 ·exact .inr ⟨hi,LP,LY,by show i+1<=kX d;omega,.inl (by show kX d < p.blocks.length;omega)⟩
theorem ab1 (p:bt):Ac p ⟨0,[],List.replicate p.blocks.length false⟩:=by
 have mL:kX (List.replicate p.blocks.length false)=0:=by
  unfold kX
  rw [List.countP_eq_zero]
  intro a ha
  rw [(Ex.1 ha).2]
  decide
 exact ⟨cL _,si,by rw [mL];rfl,cL _,by rw [mL];omega⟩
theorem aa9 {p:bt} {rk:Nat->Nat} (jD:jH p rk) (hs:∀x∈p.blocks,∀s∈x.ins,0<=s/\s < p.sigs):∀(k i:Nat) (s:List Int × List Bool),i+k=p.blocks.length->Ac p ⟨i,s.1,s.2⟩->(zi p k s).length=p.blocks.length
 | 0,i,s,hi,hJ=>by
  have h1:s.1.length=kX s.2:=hJ.ol
  have h2:i<=kX s.2:=hJ.lo
  have h3:s.2.length=p.blocks.length:=hJ.dl
  have:=UW s.2
  show s.1.length=_
  omega
 | k+1,i,s,hi,hJ=>by
  unfold zi
  split
  ·assumption
  ·rename_i cT
   rcases ac8 jD hs hJ (by omega) with h|h
   ·exact absurd h cT
   ·exact aa9 jD hs k (i+1) _ (by omega) h
theorem am5 {p:bt} (ej:Shape p) (hr:∃r,jH p r):(HI p).length=p.blocks.length:=by
 obtain ⟨r,hr⟩:=hr
 exact aa9 hr (λx hx s hs=>⟨(ej.used x hx s hs).lo,(ej.used x hx s hs).hi⟩) _ 0 _ (by omega) (ab1 p)
@[reducible] noncomputable def ae9:Vc.Spec where
 α:=bt
 args x:=[.agg (fB x)]
 pre x:=aio x
 res x:=.sl 1 bK (λ_=>HI x)
noncomputable def cOd (n m:Nat):Ctx:=eF n m [] [(175,ae8)]
theorem We (n m:Nat):CB PP (cOd n m):=eH n m trivial ⟨aoJ,trivial⟩
theorem aoK:cW (PP ()) 78 ae9:=by
 refine dT (We 0 0) (fo Tryz.func78) (λa=>⟨kE a,trivial⟩) (λa=>(λx=>(cP x).1)) ?_
 rintro ⟨ins,blocks,outs,ay⟩ hx
 have hx:aio ⟨ins,blocks,outs,ay⟩:=hx
 have ej:=hx.sh
 have gY:ins.length<=1000000:=hx.ins
 obtain ⟨rk,jD⟩:=hx.rk
 have oP:blocks.length<=600:=ej.dK
 have pD:∀x∈blocks,∀s∈x.ins,0<=s/\s < bt.sigs ⟨ins,blocks,outs,ay⟩:=λx hx s hs=>⟨(ej.used x hx s hs).lo,(ej.used x hx s hs).hi⟩
 have eI:0<=(blocks.length:Int)/\1*(blocks.length:Int)<=281474976710656/\(blocks.length:Int)<=9223372036854775807:=by omega
 obtain ⟨d0,pE⟩:∃l,List.replicate ((blocks.length:Int)).toNat false=l:=⟨_,rfl⟩
 have aip:List.replicate blocks.length false=d0:=by rw [<-pE,pf]
 have tN:Ac ⟨ins,blocks,outs,ay⟩ ⟨0,[],d0⟩:=by rw [<-aip];exact ab1 ⟨ins,blocks,outs,ay⟩
 obtain ⟨R,hR⟩:∃R,HI ⟨ins,blocks,outs,ay⟩=R:=⟨_,rfl⟩
 have vC:zi ⟨ins,blocks,outs,ay⟩ (blocks.length - 0) ([],d0)=R:=by rw [<-aip];exact hR
 clear hx
 refine ⟨?_⟩
 cbv
 refine ⟨⟨eI.1,jR _,eI.2.1,eI.2.2⟩,?_⟩
 cbv
 refine Sat.cd (We 0 0) 3 3 [(.t 3,1),(.t 4,2)] (λx:QR=>[(3,.own 1),(4,.own 2),(5,.i .i64 (λ_=>(x.i:Int)))]) (λx=>[(1,.dyn 3 1 bK (λ_=>x.out)),(2,.dyn 4 1 jc (λ_=>x.done))])
  (λx=>Ac ⟨ins,blocks,outs,ay⟩ x/\zi ⟨ins,blocks,outs,ay⟩ (blocks.length - x.i) (x.out,x.done)=R) (λx=>blocks.length - x.i) ⟨0,[],d0⟩ (by exact ao) (by have dP:=pE;exact bI) ⟨tN,vC⟩ ?_
 rintro ⟨i,out,done⟩ ⟨hJ,hF⟩
 have hJ:Ac ⟨ins,blocks,outs,ay⟩ ⟨i,out,done⟩:=hJ
 have hF:zi ⟨ins,blocks,outs,ay⟩ (blocks.length - i) (out,done)=R:=hF
 have hi:i<=blocks.length:=hJ.le
 have fV:done.length=blocks.length:=hJ.dl
 have gu:out.length=kX done:=hJ.ol
 have fa:i<=kX done:=hJ.lo
 have aR:kX done < blocks.length\/blocks.length=0:=hJ.lt
 have h0:=n0 i
 have h1:=cj (i:=i) (by omega)
 cbv
 refine ⟨λh=>?_,λh=>?_⟩
 ·have bq:i < blocks.length:=bG
  have a7:blocks.length - (i+1) < blocks.length - i:=by omega
  refine (least (r:=rk) (done:=done) (by omega)).elim λb0 ei=>?_
  have Za:=Y7 jD pD hJ ei
  have tJ:=ac8 jD pD hJ bq
  refine (⟨blocks.length - (i+1),by omega⟩:∃k,blocks.length - i=k+1).elim λk hk=>?_
  have mO:blocks.length - (i+1)=k:=by omega
  rw [hk] at hF
  unfold zi at hF
  obtain ⟨Q,hQ⟩:∃Q:Nat->List Int × List Bool,Q=λb=>ue ⟨ins,blocks,outs,ay⟩ b (out,done):=⟨_,rfl⟩
  have RK:Q 0=(out,done):=by rw [hQ];rfl
  have hQs:∀b,Q (b+1)=Lc ⟨ins,blocks,outs,ay⟩ (Q b) b:=λb=>by rw [hQ];exact aaQ _ _ _
  have Za:∀b,b<=blocks.length->Y6 ⟨ins,blocks,outs,ay⟩ done b0 ⟨b,(Q b).1,(Q b).2⟩:=λb hb=>by rw [hQ];exact Za b hb
  have tJ:(Q blocks.length).1.length=blocks.length\/Ac ⟨ins,blocks,outs,ay⟩ ⟨i+1,(Q blocks.length).1,(Q blocks.length).2⟩:=by rw [hQ];exact tJ
  have hF:(if (Q blocks.length).1.length=blocks.length then (Q blocks.length).1 else zi ⟨ins,blocks,outs,ay⟩ k (Q blocks.length))=R:=by rw [hQ];exact hF
  clear hQ
  cbv
  refine Sat.cd (We 0 0) 3 3 [(.t 3,1),(.t 4,2)] (λx:QR=>[(3,.own 1),(4,.own 2),(5,.i .i64 (λ_=>(i:Int))),(6,.i .i64 (λ_=>(x.i:Int)))]) (λx=>[(1,.dyn 3 1 bK (λ_=>x.out)),(2,.dyn 4 1 jc (λ_=>x.done))])
   (λx=>x.i<=blocks.length/\Q x.i=(x.out,x.done)) (λx=>blocks.length - x.i) ⟨0,out,done⟩ (by exact ao) (by exact ao) ⟨cL _,RK⟩ ?_
  rintro ⟨b,dG,d⟩ ⟨hb,hq⟩
  have hb:b<=blocks.length:=hb
  have hq:Q b=(dG,d):=hq
  have hK:=Za b hb
  rw [hq] at hK
  have q9:vq done d:=hK.up
  have LY:dG.length=kX d:=hK.ol
  have LP:d.length=blocks.length:=by rw [q9.1];exact fV
  have gS:=n0 b
  have eX:=cj (i:=b) (by omega)
  have Re:=UW d
  have Zb:=hQs b
  rw [hq] at Zb
  cbv
  refine ⟨λh=>?_,λh=>?_⟩
  ·have eb:b < blocks.length:=bG
   have lz:blocks.length - (b+1) < blocks.length - b:=by omega
   have jk:0<=(b:Int)/\(b:Int).toNat < d.length:=⟨gS,by omega⟩
   refine (bB jk.2).elim λv hv=>?_
   have yk:d[b]?=some v:=hv
   refine (bB eb).elim λx hx=>?_
   have fe:Wc ⟨⟨ins,blocks,outs,ay⟩,b,d⟩:=⟨⟨ej,gY,gS,by show (b:Int) < blocks.length;omega⟩,LP⟩
   have RJ:CA ⟨⟨ins,blocks,outs,ay⟩,b,d⟩=AY ⟨ins,blocks,outs,ay⟩ x d:=by
    unfold CA
    simp only [pf]
    rw [hx]
   have Ad:Q (b+1)=if v=true then (dG,d) else if AY ⟨ins,blocks,outs,ay⟩ x d=true then (dG++[(b:Int)],d.set b true) else (dG,d):=by
    rw [Zb]
    unfold Lc
    simp only
    rw [hx]
    simp only
    rw [yk]
    cases v<;>rfl
   clear Zb hQs
   cbv
   refine ⟨⟨jk⟩,v,⟨hv,rfl⟩,?_⟩
   cbv
   refine ⟨λh=>?_,λh=>?_⟩
   ·have Zc:v=false:=by have h':(!v)=true:=h.out;simpa using h'
    subst Zc
    cbv
    refine ⟨⟨⟨ins,blocks,outs,ay⟩,b,d⟩,⟨.inl ⟨by exact bQ,rfl⟩,fe⟩,?_⟩
    cbv
    refine ⟨λh=>?_,λh=>?_⟩
    ·have hr:AY ⟨ins,blocks,outs,ay⟩ x d=true:=by rw [<-RJ];exact h.out
     refine (⟨_,rfl⟩:∃d2,d.set (b:Int).toNat true=d2).elim λd2 RL=>?_
     have zx:d.set b true=d2:=RL
     have bA:b+1<=blocks.length/\Q (b+1)=(dG++[(b:Int)],d2):=⟨eb,by rw [Ad,if_neg (by decide),if_pos hr,zx]⟩
     cbv
     refine ⟨⟨jk⟩,?_⟩
     cbv
     refine ⟨(false,true),⟨hv,rfl,by exact aL⟩,?_⟩
     cbv
     refine ⟨[(b:Int)],⟨by exact bQ,by show (dG.length+1)*8<=_;omega,by show dG.length+1<=_;omega⟩,?_⟩
     cbv
     exact ⟨⟨b+1,dG++[(b:Int)],d2⟩,by exact ao,by have dP:=RL;exact bI,⟨⟨bA,lz⟩⟩⟩
    ·have Y9:AY ⟨ins,blocks,outs,ay⟩ x d=false:=by rw [<-RJ];exact h.out
     have bA:b+1<=blocks.length/\Q (b+1)=(dG,d):=⟨eb,by rw [Ad,if_neg (by decide),Y9];rfl⟩
     cbv
     exact ⟨⟨b+1,dG,d⟩,by exact ao,by exact ao,⟨⟨bA,lz⟩⟩⟩
   ·have hvt:v=true:=by have h':(!v)=false:=h.out;simpa using h'
    subst hvt
    have bA:b+1<=blocks.length/\Q (b+1)=(dG,d):=⟨eb,by rw [Ad,if_pos rfl]⟩
    cbv
    exact ⟨⟨b+1,dG,d⟩,by exact ao,by exact ao,⟨⟨bA,lz⟩⟩⟩
  ·have bS:b=blocks.length:=by
    have h':aS b blocks.length=false:=h.out
    have h2:¬(b:Int) < blocks.length:=by simpa [aS] using h'
    omega
   rw [bS] at hq
   rw [hq] at hF tJ
   cbv
   refine ⟨λh=>?_,λh=>?_⟩
   ·have hlen:dG.length=blocks.length:=by have h':aV (dG.length:Int) (blocks.length:Int)=true:=h.out;simp only [aV,beq_iff_eq] at h';exact aU
    have e:dG=HI ⟨ins,blocks,outs,ay⟩:=by
     rw [hR,<-hF]
     exact (if_pos hlen).symm
    cbv
    exact ⟨by exact aL⟩
   ·have hlen:¬dG.length=blocks.length:=by have h':aV (dG.length:Int) (blocks.length:Int)=false:=h.out;simp only [aV,beq_eq_false_iff_ne,ne_eq] at h';intro e;exact h' (by rw [e])
    have bA:Ac ⟨ins,blocks,outs,ay⟩ ⟨i+1,dG,d⟩/\zi ⟨ins,blocks,outs,ay⟩ (blocks.length - (i+1)) (dG,d)=R:=⟨tJ.resolve_left hlen,by rw [mO,<-hF];exact (if_neg hlen).symm⟩
    cbv
    exact ⟨⟨i+1,dG,d⟩,by exact ao,by exact ao,⟨⟨bA,a7⟩⟩⟩
 ·have bS:i=blocks.length:=by
   have h':aS i blocks.length=false:=h.out
   have h2:¬(i:Int) < blocks.length:=by simpa [aS] using h'
   omega
  have e:out=HI ⟨ins,blocks,outs,ay⟩:=by rw [hR,<-hF,bS,Tz];rfl
  cbv
  exact ⟨by exact aL⟩
structure Bl (p:bt):Prop where
 small:EO p
 outs:p.outs.length<=1000000
 ay:p.ay.length<=1000000
 k:∀x∈p.blocks,x.ins.length<=1000000
def CN (p:bt):Prop:=Shape p/\∃r,jH p r
structure afa (p:bt) (y:Bool):Prop where
 iff:y=true↔CN p
@[reducible] noncomputable def ard:fO where
 α:=bt
 args x:=[.agg (fB x)]
 pre x:=Bl x
 β:=Bool
 post x y:=afa x y
 res x y:=.b (λ_=>y)
structure Gm (p:bt) (i:Nat) (m:Int->Option Unit):Prop where
 le:i<=p.blocks.length
 bh:∀j,(m j).isSome=true↔∃k x,k < i/\p.blocks[k]?=some x/\x.bh=j
 ok:∀(k:Nat) (x:Block),k < i->p.blocks[k]?=some x->zd x/\∀s∈x.ins,kD p s
 Mh:∀(k l:Nat) (x y:Block),k < i->l < i->p.blocks[k]?=some x->p.blocks[l]?=some y->0<=x.bh->x.bh=y.bh->k=l
theorem Gm.nil (p:bt):Gm p 0 λ_=>none:=⟨cL _,λj=>⟨λh=>by simp at h,λ⟨k,x,h,_⟩=>by omega⟩,λk x h=>by omega,λk l x y h=>by omega⟩
theorem Gm.add {p:bt} {i:Nat} {m:Int->Option Unit} (h:Gm p i m) {x:Block} (hx:p.blocks[i]?=some x) (hf:zd x) (hu:∀s∈x.ins,kD p s) (hd:0<=x.bh->(m x.bh).isSome=false) {m':Int->Option Unit} (hm:∀j,(m' j).isSome=true↔j=x.bh\/(m j).isSome=true):Gm p (i+1) m':=by
 refine ⟨(bY.1 hx).1,λj=>?_,λk y hk hy=>?_,λk l y z hk hl hy hz h0 he=>?_⟩
 ·rw [hm j,h.bh j]
  constructor
  ·rintro (e|⟨k,y,hk,hy,e⟩)
   ·exact ⟨i,x,by omega,hx,e.symm⟩
   ·exact ⟨k,y,by omega,hy,e⟩
  ·rintro ⟨k,y,hk,hy,e⟩
   by_cases Gb:k=i
   ·subst Gb;rw [hx] at hy;cases hy;exact .inl e.symm
   ·exact .inr ⟨k,y,by omega,hy,e⟩
 ·by_cases Gb:k=i
  ·subst Gb;rw [hx] at hy;cases hy;exact ⟨hf,hu⟩
  ·exact h.ok k y (by omega) hy
 ·have key:∀(k:Nat) (y:Block),k < i->p.blocks[k]?=some y->0<=x.bh->y.bh≠x.bh:=λk y hk hy h0 e=>by
   have:=(h.bh x.bh).2 ⟨k,y,hk,hy,e⟩
   rw [hd h0] at this;cases this
  by_cases Gb:k=i
  ·subst Gb;rw [hx] at hy;cases hy
   by_cases Ro:l=k
   ·exact Ro.symm
   ·exact absurd he.symm (key l z (by omega) hz h0)
  ·by_cases Ro:l=i
   ·subst Ro;rw [hx] at hz;cases hz
    exact absurd he (key k y (by omega) hy (by omega))
   ·exact h.Mh k l y z (by omega) (by omega) hy hz h0 he
@[reducible] noncomputable def UX:Vc.Spec where
 α:=Bool × List bU
 args x:=match x.1 with
  | true=>(Pt 84 2 4).args x.2
  | false=>(Pt 86 5 10).args x.2
 pre x:=x.2.length<=1000000
 res x:=match x.1 with
  | true=>.b (λ_=>tv 2 4 x.2)
  | false=>.b (λ_=>tv 5 10 x.2)
theorem ab2:cW (PP ()) 83 UX where
 fn:=OV.fn
 fresh:=λh=>by cases h
 lf:=λa=>by
  obtain ⟨b,l⟩:=a
  cases b
  ·exact US.lf l
  ·exact OV.lf l
 lr:=λa=>by
  obtain ⟨b,l⟩:=a
  cases b
  ·exact US.lr l
  ·exact OV.lr l
 run:=λa ha=>by
  obtain ⟨b,l⟩:=a
  cases b
  ·exact US.run l ha
  ·exact OV.run l ha
noncomputable def cVa (n m:Nat):Ctx:=eF n m [(88,Tryz.f88)] [(82,Vt),(87,UU),(83,UX)] [88] [] [3]
theorem asN (n m:Nat):CB PP (cVa n m):=eH n m ⟨fo Tryz.func88,trivial⟩ ⟨ac4,ab0,ab2,trivial⟩
noncomputable def cVb (n m:Nat):Ctx:=eF n m [(88,Tryz.f88)] [(82,Vt),(87,UU),(83,UX)] [88]
theorem agr (n m:Nat):CB PP (cVb n m):=eH n m ⟨fo Tryz.func88,trivial⟩ ⟨ac4,ab0,ab2,trivial⟩
theorem aoL:eM PP 20 ard:=by
 refine iQ (asN 0 0) (fo Tryz.func20) (λa=>⟨kE a,trivial⟩) (λa y=>trivial) ?_
 rintro ⟨ins,blocks,outs,ay⟩ hx
 have hp:Bl ⟨ins,blocks,outs,ay⟩:=hx
 have sU:=hp.small
 have RM:blocks.length<=1000000:=sU.dK
 have gY:ins.length<=1000000:=sU.ins
 have MP:outs.length<=1000000:=hp.outs
 have Jb:ay.length<=1000000:=hp.ay
 have DM:∀x∈blocks,x.ins.length<=1000000:=hp.k
 have F:¬CN ⟨ins,blocks,outs,ay⟩->afa ⟨ins,blocks,outs,ay⟩ false:=λh=>⟨⟨λe=>(by cases e),λe=>absurd e h⟩⟩
 refine ⟨?_⟩
 cbv
 refine Sat.freeze 1 rfl rfl ?_
 refine Sat.uH (agr 0 0) ?_
 cbv
 refine ⟨λh=>?_,λh=>?_⟩
 ·have hb:¬blocks.length<=600:=by have h':aS 600 (blocks.length:Int)=true:=h.out;simp only [aS,decide_eq_true_eq] at h';exact aU
  have bW:=F λh=>hb h.1.dK
  cbv
  exact .mk' false ⟨by exact aL⟩ bW
 ·have hb:blocks.length<=600:=by have h':aS 600 (blocks.length:Int)=false:=h.out;simp only [aS,decide_eq_false_iff_not] at h';exact aU
  cbv
  refine ⟨λh=>?_,λh=>?_⟩
  ·have hd:¬ay.length=outs.length:=by have h':(!aV (ay.length:Int) (outs.length:Int))=true:=h.out;simp only [aV,p8,beq_eq_false_iff_ne,ne_eq] at h';exact aU
   have bW:=F λh=>hd h.1.pA
   cbv
   exact .mk' false ⟨by exact aL⟩ bW
  ·have hd:ay.length=outs.length:=by have h':(!aV (ay.length:Int) (outs.length:Int))=false:=h.out;simp only [aV,Ez,beq_iff_eq] at h';exact aU
   cbv
   refine ⟨⟨⟨ins,blocks,outs,ay⟩,ay⟩,⟨.inl ⟨by exact bQ,rfl⟩,sU,Jb⟩,?_⟩
   cbv
   refine ⟨λh=>?_,λh=>?_⟩
   ·have hu:AP ⟨ins,blocks,outs,ay⟩ ay=true:=h.out
    have bW:=F λh=>by have:=NM.2 h.1.ay;simp only at this;rw [hu] at this;cases this
    cbv
    exact .mk' false ⟨by exact aL⟩ bW
   ·have hu:AP ⟨ins,blocks,outs,ay⟩ ay=false:=h.out
    have oX:∀s∈ay,kD ⟨ins,blocks,outs,ay⟩ s:=NM.1 hu
    cbv
    refine ⟨(true,ins),⟨.inl ⟨by exact bQ,rfl⟩,gY⟩,?_⟩
    cbv
    refine ⟨λh=>?_,λh=>?_⟩
    ·have hw:tv 2 4 ins=true:=h.out
     have bW:=F λh=>by have:=OH.2 h.1.ins;simp only at this;rw [hw] at this;cases this
     cbv
     exact .mk' false ⟨by exact aL⟩ bW
    ·have hw:tv 2 4 ins=false:=h.out
     have dN:∀w∈ins,mD w 2 4:=OH.1 hw
     cbv
     refine ⟨(false,outs),⟨.inl ⟨by exact bQ,rfl⟩,MP⟩,?_⟩
     cbv
     refine ⟨λh=>?_,λh=>?_⟩
     ·have hw:tv 5 10 outs=true:=h.out
      have bW:=F λh=>by have:=OH.2 h.1.outs;simp only at this;rw [hw] at this;cases this
      cbv
      exact .mk' false ⟨by exact aL⟩ bW
     ·have hw:tv 5 10 outs=false:=h.out
      have BQ:∀w∈outs,mD w 5 10:=OH.1 hw
      cbv
      refine Sat.cd (agr 0 0) 3 6 [] (λx:Nat × (Int->Option Unit)=>[(40,.sl 5 oD (λ_=>blocks)),(41,.i .i64 (λ_=>(blocks.length:Int))),(42,.i .i64 λ_=>(x.1:Int))]) (λx=>[(2,.map (.int .i64) (λ_:Unit=>[.bc true]) (λ_=>x.2))])
       (λx=>Gm ⟨ins,blocks,outs,ay⟩ x.1 x.2) (λx=>blocks.length - x.1) (0,λ_=>none) (by exact ao) (by exact ao) (.nil _) ?_
      rintro ⟨i,m⟩ hJ
      have hJ:Gm ⟨ins,blocks,outs,ay⟩ i m:=hJ
      have hi:i<=blocks.length:=hJ.le
      have h0:=n0 i
      have h1:=cj (i:=i) (by omega)
      cbv
      refine ⟨λh=>?_,λh=>?_⟩
      ·have bq:i < blocks.length:=bG
       have a7:blocks.length - (i+1) < blocks.length - i:=by omega
       refine (bB bq).elim λx hx=>?_
       have gW:=cb hx
       have mu:=DM x gW
       cbv
       refine ⟨x,⟨h0,hx⟩,?_⟩
       cbv
       refine ⟨x,⟨by exact bQ,mu⟩,?_⟩
       cbv
       refine ⟨λh=>?_,λh=>?_⟩
       ·have hf:xM x=false:=by have h':(!xM x)=true:=h.out;simpa using h'
        have bW:=F λh=>by have:=aaO.2 (h.1.formed x gW);rw [hf] at this;cases this
        cbv
        exact .mk' false ⟨by exact aL⟩ bW
       ·have hf:zd x:=aaO.1 (by have h':(!xM x)=false:=h.out;simpa using h')
        cbv
        refine ⟨⟨⟨ins,blocks,outs,ay⟩,x.ins⟩,⟨.inl ⟨by exact bQ,rfl⟩,sU,mu⟩,?_⟩
        cbv
        refine ⟨λh=>?_,λh=>?_⟩
        ·have hu:AP ⟨ins,blocks,outs,ay⟩ x.ins=true:=h.out
         have bW:=F λh=>by have:=NM.2 (h.1.used x gW);rw [hu] at this;cases this
         cbv
         exact .mk' false ⟨by exact aL⟩ bW
        ·have hu:∀s∈x.ins,kD ⟨ins,blocks,outs,ay⟩ s:=NM.1 h.out
         have QS:∀m':Int->Option Unit,m'=(λj=>if j=x.bh then some () else m j)->∀j,(m' j).isSome=true↔j=x.bh\/(m j).isSome=true:=λm' iE j=>by
          rw [iE]
          by_cases e:j=x.bh
          ·simp [e]
          ·simp [e]
         refine (⟨_,rfl⟩:∃m',m'=(λj=>if j=x.bh then some () else m j)).elim λm' iE=>?_
         have QS:=QS m' iE
         cbv
         refine ⟨λh=>?_,λh=>?_⟩
         ·have Gc:0<=x.bh:=bG
          cbv
          refine ⟨none,⟨rfl,λ_=>rfl⟩,?_⟩
          cbv
          refine ⟨λh=>?_,λh=>?_⟩
          ·have hs:(m x.bh).isSome=true:=h.out
           have bW:=F λh=>by
            obtain ⟨k,y,hk,hy,e⟩:=(hJ.bh x.bh).1 hs
            have:=h.1.aN k i y x hy hx (by omega) e
            omega
           cbv
           exact .mk' false ⟨by exact aL⟩ bW
          ·have hs:(m x.bh).isSome=false:=h.out
           have bA:=hJ.add hx hf hu (λ_=>hs) QS
           cbv
           refine ⟨(),⟨by exact aL⟩,?_⟩
           cbv
           exact ⟨(i+1,m'),by exact ao,by have im:=iE.symm;exact bI,⟨⟨bA,a7⟩⟩⟩
         ·have Gc:¬0<=x.bh:=bG
          have bA:=hJ.add hx hf hu (λh=>absurd h Gc) QS
          cbv
          refine ⟨(),⟨by exact aL⟩,?_⟩
          cbv
          exact ⟨(i+1,m'),by exact ao,by have im:=iE.symm;exact bI,⟨⟨bA,a7⟩⟩⟩
      ·have bS:i=blocks.length:=by
        have h':aS i blocks.length=false:=h.out
        have h2:¬(i:Int) < blocks.length:=by simpa [aS] using h'
        omega
       have cv:∀x∈blocks,zd x/\∀s∈x.ins,kD ⟨ins,blocks,outs,ay⟩ s:=λx hx=>by
        obtain ⟨k,hk,e⟩:=AD.1 hx
        exact hJ.ok k x (by omega) (by show blocks[k]?=some x;rw [ep hk,e])
       have ej:Shape ⟨ins,blocks,outs,ay⟩:=⟨hb,hd,oX,dN,BQ,λx hx=>(cv x hx).1,λx hx=>(cv x hx).2,λk l x y hx hy=>hJ.Mh k l x y (by rw [bS];exact (bY.1 hx).1) (by rw [bS];exact (bY.1 hy).1) hx hy⟩
       have Gn:xQ ⟨ins,blocks,outs,ay⟩:=⟨hb,gY,λx hx s hs=>⟨((cv x hx).2 s hs).lo,((cv x hx).2 s hs).hi⟩,DM⟩
       cbv
       refine bV.rel aoI ⟨ins,blocks,outs,ay⟩ (by exact aL) ⟨Gn⟩ λy hy=>?_
       have hy:OX ⟨ins,blocks,outs,ay⟩ y:=hy.out
       cbv
       exact .mk' y ⟨by exact aL⟩ ⟨⟨λh=>⟨ej,hy.up h⟩,λh=>hy.down h.2⟩⟩
structure Xx (p:bt):Prop where
 v:Bl p
 ok:CN p
@[reducible] noncomputable def aef:Vc.Spec where
 α:=bt
 args x:=[.agg (fB x)]
 pre x:=Xx x
 res x:=.b (λ_=>true)
@[reducible] noncomputable def ac9:Vc.Spec:=Pu
theorem am6:cW (PP ()) 75 ac9:=anM
noncomputable def cVr (n m:Nat):Ctx:=eF n m [] [(76,TU),(77,agp),(75,ac9),(78,ae9)]
theorem Qa (n m:Nat):CB PP (cVr n m):=eH n m trivial ⟨aaP,apS,am6,aoK,trivial⟩
theorem anN:cW (PP ()) 17 aef:=by
 refine dT (Qa 0 0) (fo Tryz.func17) (λa=>⟨kE a,trivial⟩) (λa=>trivial) ?_
 rintro ⟨ins,blocks,outs,ay⟩ hx
 have hx:Xx ⟨ins,blocks,outs,ay⟩:=hx
 have hp:=hx.v
 obtain ⟨ej,jD⟩:=hx.ok
 have sU:=hp.small
 have gY:ins.length<=1000000:=sU.ins
 have MP:outs.length<=1000000:=hp.outs
 have oP:blocks.length<=600:=ej.dK
 have fV:ay.length=outs.length:=ej.pA
 have oX:∀s∈ay,kD ⟨ins,blocks,outs,ay⟩ s:=ej.ay
 have dN:∀w∈ins,mD w 2 4:=ej.ins
 have BQ:∀w∈outs,mD w 5 10:=ej.outs
 clear hx hp
 refine ⟨?_⟩
 cbv
 refine ⟨λh=>?_,λ_=>?_⟩
 ·have hF:False:=by
   have h':aS 600 (blocks.length:Int)=true:=h.out
   simp only [aS,decide_eq_true_eq] at h'
   exact aU
  cases hF
 cbv
 refine ⟨λh=>?_,λ_=>?_⟩
 ·have hF:False:=by
   have h':(!aV (ay.length:Int) (outs.length:Int))=true:=h.out
   rw [fV] at h'
   simp [aV] at h'
  cases hF
 cbv
 refine Sat.cd (Qa 0 0) 1 3 [] (λi:Nat=>[(3,.i .i64 (λ_=>(i:Int)))]) (λi=>[]) (λi=>i<=ins.length) (λi=>ins.length - i) 0 (by exact ao) (by exact ao) (cL _) ?_
 rintro i hi
 have h0:=n0 i
 have h1:=cj (i:=i) (by omega)
 cbv
 refine ⟨λh=>?_,λh=>?_⟩
 ·have bq:i < ins.length:=bG
  have a7:i+1<=ins.length/\ins.length - (i+1) < ins.length - i:=by omega
  refine (bB bq).elim λw hw=>?_
  have DH:=dN w (cb hw)
  cbv
  refine ⟨w,⟨h0,hw⟩,?_⟩
  cbv
  refine ⟨⟨w,2,4⟩,⟨by exact bQ,trivial⟩,?_⟩
  cbv
  refine ⟨λh=>?_,λ_=>?_⟩
  ·have hF:False:=by
    have h':(!uM 2 4 w)=true:=h.out
    rw [UR.2 DH] at h'
    cases h'
   cases hF
  cbv
  exact ⟨i+1,by exact ao,by exact ao,⟨a7⟩⟩
 ·clear h0 h1 hi
  cbv
  refine Sat.cd (Qa 0 0) 1 3 [] (λi:Nat=>[(4,.i .i64 (λ_=>(i:Int)))]) (λi=>[]) (λi=>i<=outs.length) (λi=>outs.length - i) 0 (by exact ao) (by exact ao) (cL _) ?_
  rintro i hi
  have h0:=n0 i
  have h1:=cj (i:=i) (by omega)
  cbv
  refine ⟨λh=>?_,λh=>?_⟩
  ·have bq:i < outs.length:=bG
   have a7:i+1<=outs.length/\outs.length - (i+1) < outs.length - i:=by omega
   refine (bB bq).elim λw hw=>?_
   have DH:=BQ w (cb hw)
   refine (bB (l:=ay) (i:=i) (by omega)).elim λs hs=>?_
   have pD:=oX s (cb hs)
   cbv
   refine ⟨w,⟨h0,hw⟩,?_⟩
   cbv
   refine ⟨⟨w,5,10⟩,⟨by exact bQ,trivial⟩,?_⟩
   cbv
   refine ⟨λh=>?_,λ_=>?_⟩
   ·have hF:False:=by
     have h':(!uM 5 10 w)=true:=h.out
     rw [UR.2 DH] at h'
     cases h'
    cases hF
   cbv
   refine ⟨s,⟨h0,hs⟩,?_⟩
   cbv
   refine ⟨⟨⟨ins,blocks,outs,ay⟩,s⟩,⟨by exact bQ,sU⟩,?_⟩
   cbv
   refine ⟨λh=>?_,λ_=>?_⟩
   ·have hF:False:=by
     have h':(!oC ⟨ins,blocks,outs,ay⟩ s)=true:=h.out
     rw [SP.2 pD] at h'
     cases h'
    cases hF
   cbv
   exact ⟨i+1,by exact ao,by exact ao,⟨a7⟩⟩
  ·clear h0 h1 hi
   cbv
   refine Sat.cd (Qa 0 0) 1 3 [] (λi:Nat=>[(5,.i .i64 (λ_=>(i:Int)))]) (λi=>[]) (λi=>i<=blocks.length) (λi=>blocks.length - i) 0 (by exact ao) (by exact ao) (cL _) ?_
   rintro i hi
   have h0:=n0 i
   have h1:=cj (i:=i) (by omega)
   cbv
   refine ⟨λh=>?_,λh=>?_⟩
   ·have bq:i < blocks.length:=bG
    have a7:i+1<=blocks.length/\blocks.length - (i+1) < blocks.length - i:=by omega
    have fe:Iy ⟨ins,blocks,outs,ay⟩ i:=⟨ej,gY,h0,by show (i:Int) < blocks.length;omega⟩
    cbv
    refine ⟨⟨⟨ins,blocks,outs,ay⟩,i⟩,⟨by exact bQ,fe⟩,?_⟩
    cbv
    refine ⟨λh=>?_,λ_=>?_⟩
    ·have hF:False:=by
      have h':(!true)=true:=h.out
      cases h'
     cases hF
    cbv
    exact ⟨i+1,by exact ao,by exact ao,⟨a7⟩⟩
   ·cbv
    refine ⟨⟨ins,blocks,outs,ay⟩,⟨by exact bQ,⟨ej,jD,gY⟩⟩,?_⟩
    have e:aV ((HI ⟨ins,blocks,outs,ay⟩).length:Int) (blocks.length:Int)=true:=by rw [am5 ej jD];simp [aV]
    cbv
    exact ⟨by exact aL⟩
structure PR where
 n:Net
 w:List Int->Option Int
 k:PK
@[reducible] def kW:KD:=.ints [.i64,.i64,.i64]
@[reducible] def kF:KD:=.int .i64
def Zd (x:PR):List SV:=[.sl 3 dk (λ_=>x.n.ins),.sl 5 dE (λ_=>x.n.gP),.sl 3 dk (λ_=>x.n.outs),.sl 1 bK (λ_=>x.n.ay),.mp kW bK (λ_=>x.w),.sl 4 vg (λ_=>x.k.parts),.sl 2 mB (λ_=>x.k.cells),.b (λ_=>x.k.n0),.b (λ_=>x.k.n1),.mp kF bK (λ_=>x.k.bL)]
theorem are (x:PR):du (Zd x):=⟨λx=>(gU x).1,λx=>(eO x).1,λx=>(gU x).1,λx=>(cP x).1,λx=>(cP x).1,λx=>(Oy x).1,λx=>(yU x).1,trivial,trivial,λx=>(cP x).1,trivial⟩
structure Xy where
 x:PR
 sig:Int
structure HX (y:Xy):Prop where
 BM:eU y.x.n
 w:y.x.w=wh y.x.n.ins
 lo:0<=y.sig
 hi:y.sig < 2+y.x.n.ins.length+y.x.k.cells.length
 dK:y.x.k.cells.length<=1000000
@[reducible] noncomputable def Ld:Vc.Spec where
 α:=Xy
 args y:=[.dF (Zd y.x) 0,.i .i64 (λ_=>y.sig)]
 pre y:=HX y
 res y:=.agg [.i .i64 (λ_=>(gQ y.x.n.ins y.x.k.cells y.sig).kind),.i .i64 (λ_=>(gQ y.x.n.ins y.x.k.cells y.sig).n)]
noncomputable def cFm (n m:Nat):Ctx:=eF n m [] []
theorem asO (n m:Nat):CB PP (cFm n m):=eH n m trivial trivial
theorem UY:cW (PP ()) 167 Ld:=by
 refine dT (asO 0 0) (fo Tryz.func167) (λa=>⟨are a.x,trivial,trivial⟩) (λa=>⟨trivial,trivial,trivial⟩) ?_
 rintro ⟨⟨⟨ins,gs,outs,dr⟩,w,⟨parts,cells,fI,fJ,bL⟩⟩,sig⟩ hx
 have hx:HX ⟨⟨⟨ins,gs,outs,dr⟩,w,⟨parts,cells,fI,fJ,bL⟩⟩,sig⟩:=hx
 have hn:=hx.BM
 have hw:w=wh ins:=hx.w
 have h0:0<=sig:=hx.lo
 have gF:sig < 2+(ins.length:Int)+cells.length:=hx.hi
 have hc6:cells.length<=1000000:=hx.dK
 have wK:2+ins.length+gs.length<=600:=hn.pI
 have w6:∀w∈ins,mD w 1 4/\w.i<=31:=hn.ins
 have dA:IntKind.i64.wrap (sig - 2)=sig - 2:=cD (by omega) (by omega)
 obtain ⟨S,hS⟩:∃S,gQ ins cells sig=S:=⟨_,rfl⟩
 have Ze:S.kind=(gQ ins cells sig).kind:=by rw [hS]
 have IP:S.n=(gQ ins cells sig).n:=by rw [hS]
 unfold gQ at hS
 refine ⟨?_⟩
 cbv
 refine ⟨λh=>?_,λh=>?_⟩
 ·have aR:sig < 2:=by have h':aS (IntKind.i64.wrap (sig - 2)) 0=true:=h.out;rw [dA] at h';simp only [aS,decide_eq_true_eq] at h';omega
  rw [if_pos aR] at hS
  subst hS
  cbv
  exact ⟨by exact aL⟩
 ·have bS:¬sig < 2:=by have h':aS (IntKind.i64.wrap (sig - 2)) 0=false:=h.out;rw [dA] at h';simp only [aS,decide_eq_false_iff_not] at h';omega
  rw [if_neg bS] at hS
  cbv
  refine ⟨λh=>?_,λh=>?_⟩
  ·have wS:¬sig - 2 < (ins.length:Int):=by have h':cU (ins.length:Int) (IntKind.i64.wrap (sig - 2))=true:=h.out;rw [dA] at h';simp only [cU,decide_eq_true_eq] at h';exact aU
   rw [if_neg wS] at hS
   have gF:sig < 2+(ins.length:Int)+cells.length:=gF
   have tI:IntKind.i64.wrap (IntKind.i64.wrap (sig - 2) - (ins.length:Int))=sig - 2 - ins.length:=by rw [dA];exact cD (by omega) (by omega)
   refine (bB (l:=cells) (i:=(sig - 2 - ins.length).toNat) (by omega)).elim λc hc=>?_
   have gE:0<=IntKind.i64.wrap (IntKind.i64.wrap (sig - 2) - (ins.length:Int))/\cells[(IntKind.i64.wrap (IntKind.i64.wrap (sig - 2) - (ins.length:Int))).toNat]?=some c:=by rw [tI];exact ⟨by omega,hc⟩
   have hSc:c=S:=by rw [<-hS,ig,hc];rfl
   subst hSc
   cbv
   refine ⟨c,⟨gE⟩,?_⟩
   cbv
   exact ⟨by exact aL⟩
  ·have wS:sig - 2 < (ins.length:Int):=by have h':cU (ins.length:Int) (IntKind.i64.wrap (sig - 2))=false:=h.out;rw [dA] at h';simp only [cU,decide_eq_false_iff_not] at h';exact aU
   rw [if_pos wS] at hS
   refine (bB (l:=ins) (i:=(sig - 2).toNat) (by omega)).elim λx hx=>?_
   have gE:0<=IntKind.i64.wrap (sig - 2)/\ins[(IntKind.i64.wrap (sig - 2)).toNat]?=some x:=by rw [dA];exact ⟨by omega,hx⟩
   have rh:=w6 x (cb hx)
   have hgx:ins.getD (sig - 2).toNat ⟨0,0,0⟩=x:=by rw [ig,hx];rfl
   rw [hgx] at hS
   simp only at hS
   cbv
   refine ⟨x,⟨gE⟩,?_⟩
   cbv
   refine ⟨λh=>?_,λh=>?_⟩
   ·have hk:x.kind=1:=bG
    rw [if_pos hk] at hS
    have hcw:IntKind.i64.wrap (IntKind.i64.wrap (8*x.i)+x.bit)=lO x:=by
     obtain ⟨⟨_,_,ha,hb,hc⟩,hd⟩:=rh
     rw [cD (n:=8*x.i) (by omega) (by omega),cD (by omega) (by omega)];rfl
    subst hS
    cbv
    exact ⟨by ((repeat' first|exact dW.nil|exact Le.refl _|refine dW.cons ?_ ?_|exact Le.ic rfl|exact Le.bc rfl|exact Le.i rfl|exact Le.b rfl|exact Le.sl rfl|exact Le.mp rfl|exact Le.iB rfl|exact Le.sr rfl|refine Le.dp rfl (λ_=>?_)|refine Le.eL rfl (λ_ _=>rfl) (λ_=>?_) ?_|refine Le.agg ?_|refine Le.dH ?_|refine Le.fn ?_ ?_|refine Le.dF ?_|exact trivial|refine And.intro ?_ ?_|refine λ_=>?_|exact Le.any _))<;>first|exact .ic Ze|(refine .i (hcw.trans ?_);exact IP)⟩
   ·have hk:¬x.kind=1:=bG
    rw [if_neg hk] at hS
    subst hS
    rcases hm:w (gC x) with _|v
    ·have hz:(wh ins (gC x)).getD 0=0:=by rw [<-hw,hm];rfl
     cbv
     refine ⟨some none,⟨hm⟩,?_⟩
     cbv
     exact ⟨by have ov:=Ze;have IV:=hz.symm.trans IP;exact dy⟩
    ·have hz:(wh ins (gC x)).getD 0=v:=by rw [<-hw,hm];rfl
     cbv
     refine ⟨some (some v),⟨hm⟩,?_⟩
     cbv
     exact ⟨by have ov:=Ze;have bm:=hz.symm.trans IP;exact dy⟩
@[reducible] noncomputable def Bm (x:PR):List Slot :=
 [.fix 298 [.sl 3 dk (λ_=>x.n.ins),.sl 5 dE (λ_=>x.n.gP),.sl 3 dk (λ_=>x.n.outs),.sl 1 bK (λ_=>x.n.ay),.e9 1,.own 2,.own 3,.b (λ_=>x.k.n0),.b (λ_=>x.k.n1),.e9 4],
  .map kW bK (λ_=>x.w),.dyn 307 4 vg (λ_=>x.k.parts),.dyn 302 2 mB (λ_=>x.k.cells),.map kF bK (λ_=>x.k.bL)]
structure avn where
 x:PR
 p:Part
@[reducible] noncomputable def asP:na where
 α:=avn
 args y:=[.ptr 0 0,.agg (vg y.p)]
 io y:=Bm y.x
 pre y:=y.x.k.parts.length<=1000000
 β:=Unit
 post x y:=True
 mv:=[2]
 res y _:=.agg [.i .i64 (λ_=>2),.i .i64 (λ_=>(y.x.k.parts.length:Int))]
 ko y _:=Bm ⟨y.x.n,y.x.w,y.x.k.add y.p⟩
noncomputable def cAp (n m:Nat):Ctx:=eF n m [] []
theorem asQ (n m:Nat):CB PP (cAp n m):=eH n m trivial trivial
theorem Cs:iK PP 168 asP:=by
 refine mP (asQ 0 0) (fo Tryz.func168) (λa y=>rfl) (λa=>⟨rfl,rfl⟩) (by show ([2]:List Nat).Nodup;decide) ?_
 rintro ⟨⟨⟨ins,gs,outs,dr⟩,w,⟨parts,cells,fI,fJ,bL⟩⟩,⟨MQ,pt,pr,pg⟩⟩ hx
 have Jh:parts.length<=1000000:=hx
 have ef:(parts.length+1)*48<=140737488355328:=by omega
 have nj:parts.length+1<=9223372036854775807:=by omega
 have qj:IntKind.i64.wrap (((parts++[(⟨MQ,pt,pr,pg⟩:Part)]).length:Int) - 1)=(parts.length:Int):=by
  rw [gk,nZ]
  rw [cD (by omega) (by omega)];omega
 refine ⟨?_⟩
 cbv
 refine ⟨λh=>?_,λh=>?_⟩
 ·have hg:0<=pg:=bG
  obtain ⟨v,hv⟩:∃v:Int,(parts.length:Int)=v:=⟨_,rfl⟩
  have zQ:(λj=>if j=pg then some v else bL j)=(PK.add ⟨parts,cells,fI,fJ,bL⟩ ⟨MQ,pt,pr,pg⟩).bL:=by unfold PK.add gq;simp only;rw [if_pos hg,hv]
  cbv
  refine ⟨v,⟨by have bm:=hv;exact cQ⟩,?_⟩
  cbv
  refine ⟨[⟨MQ,pt,pr,pg⟩],⟨by exact bQ,ef,nj⟩,?_⟩
  cbv
  refine ⟨(),[],[(.c 0 5,2)],?_,by have im:=zQ;exact bI,⟨trivial⟩⟩
  cbv
  exact ⟨by have bm:=qj;exact dy,trivial⟩
 ·have hg:¬0<=pg:=bG
  have zQ:bL=(PK.add ⟨parts,cells,fI,fJ,bL⟩ ⟨MQ,pt,pr,pg⟩).bL:=by unfold PK.add;simp only;rw [if_neg hg]
  cbv
  refine ⟨[⟨MQ,pt,pr,pg⟩],⟨by exact bQ,ef,nj⟩,?_⟩
  cbv
  refine ⟨(),[],[(.c 0 5,2)],?_,by have im:=zQ;exact bI,⟨trivial⟩⟩
  cbv
  exact ⟨by have bm:=qj;exact dy,trivial⟩
theorem am7 {l:List Part} {i:Nat} {x:Part} (h:l[i]?=some x) (code:Int):AT l i code=l.set i { x with bh:=code }:=by
 unfold AT
 refine n5 λj=>?_
 rw [Tc,jb]
 split
 ·rename_i e;subst e;rw [h];simp [(bY.1 h).1]
 ·simp
structure aiq where
 x:PR
 s:Source
 code:Int
structure Wf (y:aiq):Prop where
 dK:y.x.k.parts.length<=1000000
 s:y.s.kind=2->0<=y.s.n/\y.s.n < y.x.k.parts.length
@[reducible] noncomputable def ags:na where
 α:=aiq
 args y:=[.ptr 0 0,.agg (mB y.s),.i .i64 (λ_=>y.code)]
 io y:=Bm y.x
 pre y:=Wf y
 β:=Unit
 post x y:=True
 mv:=[2]
 res y _:=.dH []
 ko y _:=Bm ⟨y.x.n,y.x.w,j1 y.x.k y.s y.code⟩
noncomputable def cRp (n m:Nat):Ctx:=eF n m [(168,Tryz.f168)] [] [168]
theorem asR (n m:Nat):CB PP (cRp n m):=eH n m ⟨fo Tryz.func168,trivial⟩ trivial
theorem apT:iK PP 166 ags:=by
 refine mP (asR 0 0) (fo Tryz.func166) (λa y=>rfl) (λa=>⟨rfl,rfl⟩) (by show ([2]:List Nat).Nodup;decide) ?_
 rintro ⟨⟨⟨ins,gs,outs,dr⟩,w,⟨parts,cells,fI,fJ,bL⟩⟩,⟨sk,sn⟩,code⟩ hx
 have hx:Wf ⟨⟨⟨ins,gs,outs,dr⟩,w,⟨parts,cells,fI,fJ,bL⟩⟩,⟨sk,sn⟩,code⟩:=hx
 have Jh:parts.length<=1000000:=hx.dK
 have tK:sk=2->0<=sn/\sn < parts.length:=hx.s
 obtain ⟨K,hK⟩:∃K,j1 ⟨parts,cells,fI,fJ,bL⟩ ⟨sk,sn⟩ code=K:=⟨_,rfl⟩
 have hKr:(ags.ko ⟨⟨⟨ins,gs,outs,dr⟩,w,⟨parts,cells,fI,fJ,bL⟩⟩,⟨sk,sn⟩,code⟩ ())=Bm ⟨⟨ins,gs,outs,dr⟩,w,K⟩:=by rw [<-hK]
 have e1:K.parts=(j1 ⟨parts,cells,fI,fJ,bL⟩ ⟨sk,sn⟩ code).parts:=by rw [hK]
 have e2:K.bL=(j1 ⟨parts,cells,fI,fJ,bL⟩ ⟨sk,sn⟩ code).bL:=by rw [hK]
 have e3:K.cells=(j1 ⟨parts,cells,fI,fJ,bL⟩ ⟨sk,sn⟩ code).cells:=by rw [hK]
 have e4:K.n0=(j1 ⟨parts,cells,fI,fJ,bL⟩ ⟨sk,sn⟩ code).n0:=by rw [hK]
 have e5:K.n1=(j1 ⟨parts,cells,fI,fJ,bL⟩ ⟨sk,sn⟩ code).n1:=by rw [hK]
 unfold j1 at hK
 simp only at hK
 clear hx hKr
 refine ⟨?_⟩
 cbv
 refine ⟨λh=>?_,λh=>?_⟩
 ·have h3:sk=3:=bG
  rw [if_pos h3] at hK
  subst hK
  cbv
  refine bV.io Cs ⟨⟨⟨ins,gs,outs,dr⟩,w,⟨parts,cells,fI,fJ,bL⟩⟩,⟨[],sn,-1,code⟩⟩ [0,1,2,3,4] rfl (by exact bQ) (by exact ao) ⟨Jh⟩ λ_ _=>?_
  cbv
  refine ⟨(),[],[(.c 0 5,2)],?_,by have im:=e2;have j6:=e1;have lD:=e3;have dP:=e1;have kI:=e3;have oU:=e4;have BA:=e5;have jW:=e4;have mQ:=e5;exact bI,⟨trivial⟩⟩
  cbv
  exact ⟨by exact aL,trivial⟩
 ·have h3:¬sk=3:=bG
  rw [if_neg h3] at hK
  cbv
  refine ⟨λh=>?_,λh=>?_⟩
  ·have h2:sk=2:=bG
   have hsn:0<=sn/\sn < (parts.length:Int):=tK h2
   have uJ:0<=sn/\sn.toNat < parts.length:=by omega
   refine (bB uJ.2).elim λq hq=>?_
   have hgq:parts.getD sn.toNat ⟨[],0,0,0⟩=q:=by rw [ig,hq];rfl
   rw [hgq] at hK
   cbv
   refine ⟨⟨uJ⟩,q,⟨hq,rfl⟩,?_⟩
   cbv
   refine ⟨λh=>?_,λh=>?_⟩
   ·have hr:q.b9 < 0:=bG
    cbv
    refine ⟨⟨uJ⟩,q,⟨hq,rfl⟩,?_⟩
    cbv
    refine ⟨λh=>?_,λh=>?_⟩
    ·have hg:q.bh < 0:=bG
     rw [if_pos ⟨h2,hr,hg⟩,am7 hq] at hK
     have nO:(λj=>if j=code then some sn else bL j)=(j1 ⟨parts,cells,fI,fJ,bL⟩ ⟨sk,sn⟩ code).bL:=by rw [<-e2,<-hK];rfl
     have vz:parts.set sn.toNat { q with bh:=code }=(j1 ⟨parts,cells,fI,fJ,bL⟩ ⟨sk,sn⟩ code).parts:=by rw [<-e1,<-hK]
     have e3':cells=(j1 ⟨parts,cells,fI,fJ,bL⟩ ⟨sk,sn⟩ code).cells:=by rw [<-e3,<-hK]
     have e4':fI=(j1 ⟨parts,cells,fI,fJ,bL⟩ ⟨sk,sn⟩ code).n0:=by rw [<-e4,<-hK]
     have e5':fJ=(j1 ⟨parts,cells,fI,fJ,bL⟩ ⟨sk,sn⟩ code).n1:=by rw [<-e5,<-hK]
     obtain ⟨q2,rW⟩:∃q2,({ q with bh:=code }:Part)=q2:=⟨_,rfl⟩
     rw [rW] at vz
     have lC:q.ins=q2.ins:=by rw [<-rW]
     have oS:q.table=q2.table:=by rw [<-rW]
     have DF:q.b9=q2.b9:=by rw [<-rW]
     have Rv:code=q2.bh:=by rw [<-rW]
     cbv
     refine ⟨⟨uJ⟩,(q,q2),⟨hq,rfl,by have dJ:=lC;have bm:=oS;have lR:=DF;have zU:=Rv;exact cQ⟩,?_⟩
     cbv
     refine ⟨sn,⟨by exact bQ⟩,?_⟩
     cbv
     refine ⟨(),[],[(.c 0 5,2)],?_,by have im:=nO;have j6:=vz;have lD:=e3';have dP:=vz;have kI:=e3';have oU:=e4';have BA:=e5';have jW:=e4';have mQ:=e5';exact bI,⟨trivial⟩⟩
     cbv
     exact ⟨by exact aL,trivial⟩
    ·have hg:¬q.bh < 0:=bG
     rw [if_neg (λh=>hg h.2.2)] at hK
     subst hK
     cbv
     refine bV.io Cs ⟨⟨⟨ins,gs,outs,dr⟩,w,⟨parts,cells,fI,fJ,bL⟩⟩,⟨[⟨sk,sn⟩],2,-1,code⟩⟩ [0,1,2,3,4] rfl (by exact bQ) (by exact ao) ⟨Jh⟩ λ_ _=>?_
     cbv
     refine ⟨(),[],[(.c 0 5,2)],?_,by have im:=e2;have j6:=e1;have lD:=e3;have dP:=e1;have kI:=e3;have oU:=e4;have BA:=e5;have jW:=e4;have mQ:=e5;exact bI,⟨trivial⟩⟩
     cbv
     exact ⟨by exact aL,trivial⟩
   ·have hr:¬q.b9 < 0:=bG
    rw [if_neg (λh=>hr h.2.1)] at hK
    subst hK
    cbv
    refine bV.io Cs ⟨⟨⟨ins,gs,outs,dr⟩,w,⟨parts,cells,fI,fJ,bL⟩⟩,⟨[⟨sk,sn⟩],2,-1,code⟩⟩ [0,1,2,3,4] rfl (by exact bQ) (by exact ao) ⟨Jh⟩ λ_ _=>?_
    cbv
    refine ⟨(),[],[(.c 0 5,2)],?_,by have im:=e2;have j6:=e1;have lD:=e3;have dP:=e1;have kI:=e3;have oU:=e4;have BA:=e5;have jW:=e4;have mQ:=e5;exact bI,⟨trivial⟩⟩
    cbv
    exact ⟨by exact aL,trivial⟩
  ·have h2:¬sk=2:=bG
   rw [if_neg (λh=>h2 h.1)] at hK
   subst hK
   cbv
   refine bV.io Cs ⟨⟨⟨ins,gs,outs,dr⟩,w,⟨parts,cells,fI,fJ,bL⟩⟩,⟨[⟨sk,sn⟩],2,-1,code⟩⟩ [0,1,2,3,4] rfl (by exact bQ) (by exact ao) ⟨Jh⟩ λ_ _=>?_
   cbv
   refine ⟨(),[],[(.c 0 5,2)],?_,by have im:=e2;have j6:=e1;have lD:=e3;have dP:=e1;have kI:=e3;have oU:=e4;have BA:=e5;have jW:=e4;have mQ:=e5;exact bI,⟨trivial⟩⟩
   cbv
   exact ⟨by exact aL,trivial⟩
structure SS where
 a:List Source
 b:List Source
@[reducible] noncomputable def Xz:Vc.Spec where
 α:=SS
 args x:=[.sl 2 mB (λ_=>x.a),.sl 2 mB (λ_=>x.b)]
 pre x:=x.a.length<=1000000/\x.b.length<=1000000
 res x:=.b (λ_=>x.a == x.b)
theorem apU {a b:List Source} (hl:a.length=b.length) (h:∀j,j < a.length->a[j]?=b[j]?):(a == b)=true:=by
 rw [beq_iff_eq]
 refine n5 λj=>?_
 by_cases hj:j < a.length
 ·exact h j hj
 ·rw [mA (by omega),mA (by omega)]
theorem asS {a b:List Source} {j:Nat} (h:a[j]?≠b[j]?):(a == b)=false:=by
 rw [beq_eq_false_iff_ne]
 rintro rfl
 exact h rfl
noncomputable def cEs (n m:Nat):Ctx:=eF n m [] []
theorem agt (n m:Nat):CB PP (cEs n m):=eH n m trivial trivial
theorem arf:cW (PP ()) 236 Xz:=by
 refine dT (agt 0 0) (fo Tryz.func236) (λa=>⟨(λx=>(yU x).1),(λx=>(yU x).1),trivial⟩) (λa=>trivial) ?_
 rintro ⟨a,b⟩ hx
 obtain ⟨ha,hb⟩:a.length<=1000000/\b.length<=1000000:=hx
 obtain ⟨R,hR⟩:∃R,(a == b)=R:=⟨_,rfl⟩
 have kp:Xz.res ⟨a,b⟩=.b (λ_=>R):=by rw [<-hR]
 rw [kp]
 refine ⟨?_⟩
 cbv
 refine ⟨λh=>?_,λh=>?_⟩
 ·have cT:¬a.length=b.length:=by have h':(!aV (a.length:Int) (b.length:Int))=true:=h.out;simp only [aV,p8,beq_eq_false_iff_ne,ne_eq] at h';intro e;exact h' (by rw [e])
  have e:false=R:=by rw [<-hR];symm;rw [beq_eq_false_iff_ne];rintro rfl;exact cT rfl
  cbv
  exact ⟨by exact aL⟩
 ·have hl:a.length=b.length:=by have h':(!aV (a.length:Int) (b.length:Int))=false:=h.out;simp only [aV,Ez,beq_iff_eq] at h';exact aU
  cbv
  refine Sat.cd (agt 0 0) 0 5 [] (λi:Nat=>[(12,.i .i64 (λ_=>(a.length:Int))),(13,.i .i64 (λ_=>(i:Int)))]) (λi=>[]) (λi=>i<=a.length/\∀j,j < i->a[j]?=b[j]?) (λi=>a.length - i) 0 (by exact ao) (by exact ao) ⟨cL _,λj h=>by omega⟩ ?_
  rintro i ⟨hi,hj⟩
  have h0:=n0 i
  have h1:=cj (i:=i) (by omega)
  cbv
  refine ⟨λh=>?_,λh=>?_⟩
  ·have bq:i < a.length:=bG
   have a7:a.length - (i+1) < a.length - i:=by omega
   refine (bB bq).elim λx hx=>?_
   refine (bB (l:=b) (i:=i) (by omega)).elim λy hy=>?_
   cbv
   refine ⟨x,⟨h0,hx⟩,?_⟩
   cbv
   refine ⟨y,⟨h0,hy⟩,?_⟩
   cbv
   refine ⟨λh=>?_,λh=>?_⟩
   ·have h:=h.out
    have cT:x≠y:=by rintro rfl;simp [aV] at h
    have e:false=R:=by rw [<-hR];symm;exact asS (by rw [hx,hy];simpa using cT)
    cbv
    exact ⟨by exact aL⟩
   ·have h:=h.out
    have he:x=y:=by simp [aV] at h;cases x;cases y;simp at h ⊢;omega
    have bA:i+1<=a.length/\∀j,j < i+1->a[j]?=b[j]?:=⟨bq,λj eE=>by
     by_cases e:j=i
     ·subst e;rw [hx,hy,he]
     ·exact hj j (by omega)⟩
    cbv
    exact ⟨i+1,by exact ao,by exact ao,⟨⟨bA,a7⟩⟩⟩
  ·have bS:i=a.length:=by
    have h':aS i a.length=false:=h.out
    have h2:¬(i:Int) < a.length:=by simpa [aS] using h'
    omega
   have e:true=R:=by rw [<-hR];symm;exact apU hl (by rw [<-bS];exact hj)
   cbv
   exact ⟨by exact aL⟩
structure air where
 l:List Part
 c:Cell
 s:List Source
def yg (c:Cell) (s:List Source) (l:List Part):Int:=match l.findIdx? (WS c s) with
 | some i=>(i:Int)
 | none=>-1
structure XA (y:air):Prop where
 l:y.l.length<=1000000
 s:y.s.length<=1000000
 k:∀x∈y.l,x.ins.length<=1000000
@[reducible] noncomputable def QT:Vc.Spec where
 α:=air
 args y:=[.sl 4 vg (λ_=>y.l),.fn (.func 235) [] [.dF (rM y.c) 0,.dF [.sl 2 mB (λ_=>y.s)] 0]]
 pre y:=XA y
 res y:=.i .i64 (λ_=>yg y.c y.s y.l)
noncomputable def cIx (n m:Nat):Ctx:=eF n m [(235,Tryz.f235)] [(236,Xz)]
theorem agu (n m:Nat):CB PP (cIx n m):=eH n m ⟨fo Tryz.func235,trivial⟩ ⟨arf,trivial⟩
theorem afb:cW (PP ()) 234 QT:=by
 refine dT (agu 0 0) (fo Tryz.func234) (λa=>⟨(λx=>(Oy x).1),⟨trivial,(AM a.c).1,⟨(λx=>(yU x).1),trivial⟩,trivial⟩,trivial⟩) (λa=>trivial) ?_
 rintro ⟨l,c,s⟩ hx
 have hx:XA ⟨l,c,s⟩:=hx
 have hl:l.length<=1000000:=hx.l
 have hs6:s.length<=1000000:=hx.s
 have DM:∀x∈l,x.ins.length<=1000000:=hx.k
 obtain ⟨f,hf⟩:∃f,f=WS c s:=⟨_,rfl⟩
 have hfe:∀x,f x=(x.table == c.table&&x.b9 == c.b9&&x.ins == s):=λx=>by rw [hf];rfl
 obtain ⟨R,hR⟩:∃R,yg c s l=R:=⟨_,rfl⟩
 have kp:QT.res ⟨l,c,s⟩=.i .i64 (λ_=>R):=by rw [<-hR]
 have zK:∀i,i < l.length->(∀j,j < i->∀x,l[j]?=some x->f x=false)->(∀x,l[i]?=some x->f x=true)->(i:Int)=R:=λi hi h1 h2=>by
  rw [<-hR];unfold yg;rw [<-hf]
  have:l.findIdx? f=some i:=by
   rw [Es]
   exact ⟨hi,h2 _ (ep hi),λj hj=>by rw [h1 j hj _ (ep (by omega))];decide⟩
  rw [this]
 have eA:(∀j,j < l.length->∀x,l[j]?=some x->f x=false)->-1=R:=λh=>by
  rw [<-hR];unfold yg;rw [<-hf]
  have:l.findIdx? f=none:=by
   rw [J2]
   intro x hx
   obtain ⟨j,hj,e⟩:=AD.1 hx
   exact h j hj x (by rw [ep hj,e])
  rw [this]
 rw [kp]
 clear kp
 refine ⟨?_⟩
 cbv
 refine Sat.cd (agu 0 0) 0 4 [] (λi:Nat=>[(7,.i .i64 (λ_=>(l.length:Int))),(8,.i .i64 (λ_=>(i:Int)))]) (λi=>[]) (λi=>i<=l.length/\∀j,j < i->∀x,l[j]?=some x->f x=false) (λi=>l.length - i) 0 (by exact ao) (by exact ao) ⟨cL _,λj h=>by omega⟩ ?_
 rintro i ⟨hi,hj⟩
 have h0:=n0 i
 have h1:=cj (i:=i) (by omega)
 cbv
 refine ⟨λh=>?_,λh=>?_⟩
 ·have bq:i < l.length:=bG
  have a7:l.length - (i+1) < l.length - i:=by omega
  refine (bB bq).elim λx hx=>?_
  have mu:=DM x (cb hx)
  have rj:=hfe x
  have hF:f x=false->i+1<=l.length/\∀j,j < i+1->∀x,l[j]?=some x->f x=false:=λXB=>⟨bq,λj eE z hz=>by
   by_cases e:j=i
   ·subst e;rw [hx] at hz;cases hz;exact XB
   ·exact hj j (by omega) z hz⟩
  have hT:f x=true->(i:Int)=R:=λXB=>zK i bq hj λz hz=>by rw [hx] at hz;cases hz;exact XB
  clear zK eA
  cbv
  refine ⟨x,⟨h0,hx⟩,?_⟩
  refine ⟨λh=>?_,λh=>?_⟩
  ·have uD:(x.table == c.table)=true:=h.out
   cbv
   refine ⟨λh=>?_,λh=>?_⟩
   ·have Dl:(x.b9 == c.b9)=true:=h.out
    cbv
    refine ⟨⟨x.ins,s⟩,⟨by exact bQ,mu,hs6⟩,?_⟩
    cbv
    refine ⟨λh=>?_,λh=>?_⟩
    ·have qh:(x.ins == s)=true:=h.out
     have e:=hT (by rw [rj,uD,Dl,qh];rfl)
     cbv
     exact ⟨by exact aL⟩
    ·have qh:(x.ins == s)=false:=h.out
     have bA:=hF (by rw [rj,uD,Dl,qh];rfl)
     cbv
     exact ⟨i+1,by exact ao,by exact ao,⟨⟨bA,a7⟩⟩⟩
   ·have Dl:(x.b9 == c.b9)=false:=h.out
    have bA:=hF (by rw [rj,uD,Dl];rfl)
    cbv
    exact ⟨i+1,by exact ao,by exact ao,⟨⟨bA,a7⟩⟩⟩
  ·have uD:(x.table == c.table)=false:=h.out
   have bA:=hF (by rw [rj,uD];rfl)
   cbv
   exact ⟨i+1,by exact ao,by exact ao,⟨⟨bA,a7⟩⟩⟩
 ·have bS:i=l.length:=by
   have h':aS i l.length=false:=h.out
   have h2:¬(i:Int) < l.length:=by simpa [aS] using h'
   omega
  have e:=eA (by rw [<-bS];exact hj)
  cbv
  exact ⟨by exact aL⟩
end Go.Proofs.Pk
