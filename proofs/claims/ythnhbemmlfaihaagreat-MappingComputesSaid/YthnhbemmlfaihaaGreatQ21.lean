import Derived.Test.YthnhbemmlfaihaaGreatQ11
import Derived.Test.YthnhbemmlfaihaaGreatQ20
set_option linter.unusedVariables false
set_option linter.unusedSimpArgs false
set_option maxRecDepth 10000
set_option maxHeartbeats 64000000
namespace Go.Proofs.Pk
open Go Go.Vc
structure asm where
 n:Net
 s:eT
 v:Nat
 out:Option eT
structure G4 (n:Net) (s:eT) (v:Nat) (out:Option eT):Prop where
 v2:2<=v
 l1:s.labels.length=v
 l2:s.gG.length=v
 l3:s.leaves.length=v
 k8:n.ins.length+n.aT.length<=1000000
 lt:v < 2+n.ins.length+n.aT.length
 mO:v < 2+n.ins.length->out=some ⟨s.labels++[0],s.gG++[[[(v:Int)]]],s.leaves++[[]]⟩
 gat:∀g,2+n.ins.length<=v->n.aT[v - 2 - n.ins.length]?=some g->out=xL s g
 rd:∀g,2+n.ins.length<=v->n.aT[v - 2 - n.ins.length]?=some g->g.op=7->mG s.labels (cC g)
 mg:∀g,2+n.ins.length<=v->n.aT[v - 2 - n.ins.length]?=some g->g.op≠7->Kh s.gG (cC g) (qj s.gG (cC g))/\(qj s.gG (cC g)).length<=100000000/\∀y∈qj s.gG (cC g),mG s.labels y
@[reducible] noncomputable def NdS:pC where
 α:=asm
 args x:=[.ptr 0 0,.i .i64 (λ_=>(x.v:Int))]
 io x:=GZ x.n x.s 0
 pre x:=G4 x.n x.s x.v x.out
 β:=Unit
 post _ _:=True
 mv:=[1,2,3]
 res x _:=.b (λ_=>x.out.isSome)
 mM x _:=GZ x.n (x.out.getD x.s) 0
noncomputable def asn (n m:Nat):Ctx:=dH n m [(256,Tryz.f256),(257,Tryz.f257)] [(259,Ke),(186,OY)] [256,257]
theorem Dz (n m:Nat):CB PP (asn n m):=dK n m ⟨fo Tryz.func256,fo Tryz.func257,trivial⟩ ⟨NQ,Tl,trivial⟩
noncomputable def cNd (n m:Nat):Ctx:=dH n m [(256,Tryz.f256),(257,Tryz.f257)] [(259,Ke),(186,OY)] [256,257] [] [1,4,10,13,15]
theorem aqp (n m:Nat):CB PP (cNd n m):=dK n m ⟨fo Tryz.func256,fo Tryz.func257,trivial⟩ ⟨NQ,Tl,trivial⟩
noncomputable def aso (n m:Nat):Ctx:=dH n m [] [] [] [] [] [36]
theorem aoe (n m:Nat):CB PP (aso n m):=dK n m trivial trivial
theorem adO:nT PP 237 NdS:=by
 refine tl (aqp 1 0) (fo Tryz.func237) (λa y=>rfl) (λa=>⟨rfl,rfl⟩) (by show ([1,2,3]:List Nat).Nodup;decide) ?_
 rintro ⟨⟨ins,gs,outs,dr⟩,⟨L,C,F⟩,v,out⟩ hx
 obtain ⟨nv,iW,nk,Hm,vB,aP,Kj,ae0,oi,K6⟩:G4 ⟨ins,gs,outs,dr⟩ ⟨L,C,F⟩ v out:=hx
 have iW:L.length=v:=iW
 have nk:C.length=v:=nk
 have Hm:F.length=v:=Hm
 have vB:ins.length+gs.length<=1000000:=vB
 have aP:v < 2+ins.length+gs.length:=aP
 have Kj:v < 2+ins.length->out=some ⟨L++[0],C++[[[(v:Int)]]],F++[[]]⟩:=Kj
 have w1:IntKind.i64.wrap ((v:Int) - 2)=(v:Int) - 2:=dt (by omega) (by omega)
 have w2:IntKind.i64.wrap (IntKind.i64.wrap ((v:Int) - 2) - (ins.length:Int))=(v:Int) - 2 - ins.length:=by rw [w1];exact dt (by omega) (by omega)
 have q1:IntKind.i64.wrap (IntKind.i64.wrap ((v:Int) - 2) - (ins.length:Int)) < 0->v < 2+ins.length:=λh=>by rw [w2] at h;omega
 have q2:0<=IntKind.i64.wrap (IntKind.i64.wrap ((v:Int) - 2) - (ins.length:Int))->2+ins.length<=v:=λh=>by rw [w2] at h;omega
 have q3:2+ins.length<=v->(IntKind.i64.wrap (IntKind.i64.wrap ((v:Int) - 2) - (ins.length:Int))).toNat=v - 2 - ins.length:=λh=>by rw [w2];omega
 have b1:(L.length+1)*8<=140737488355328:=by omega
 have b2:L.length+1<=9223372036854775807:=by omega
 have b3:(C.length+1)*24<=140737488355328:=by omega
 have b4:C.length+1<=9223372036854775807:=by omega
 have b5:(F.length+1)*24<=140737488355328:=by omega
 have b6:F.length+1<=9223372036854775807:=by omega
 refine ⟨?_⟩
 cbv
 refine Sat.j2 (aoe 1 0) ?_
 cbv
 refine ⟨[[(v:Int)]],⟨by exact bp,rfl⟩,?_⟩
 cbv
 refine ⟨λh=>?_,λh=>?_⟩
 ·have fb:=q1 aH
  have ho:=Kj fb
  have o1:true=out.isSome:=by rw [ho];rfl
  have o2:L++[0]=(out.getD ⟨L,C,F⟩).labels:=by rw [ho];rfl
  have o3:C++[[[(v:Int)]]]=(out.getD ⟨L,C,F⟩).gG:=by rw [ho];rfl
  have o4:F++[[]]=(out.getD ⟨L,C,F⟩).leaves:=by rw [ho];rfl
  clear h
  cbv
  refine Sat.freeze 6 rfl rfl ?_
  refine Sat.j2 (Dz 1 0) ?_
  cbv
  refine ⟨[0],⟨by exact bp,b1,b2⟩,?_⟩
  cbv
  refine ⟨[[[(v:Int)]]],⟨by exact bp,b3,b4⟩,?_⟩
  cbv
  refine ⟨[[]],⟨by exact bp,b5,b6⟩,?_⟩
  cbv
  refine ⟨(),[],[(.c 0 4,1),(.c 0 5,2),(.c 0 6,3)],?_,by have fc:=o2;have sr:=o3;have yo:=o4;exact bh,⟨trivial⟩⟩
  cbv
  exact ⟨by have eK:=o1;exact qF,trivial⟩
 have kN:=q2 aH
 have hq3:=q3 kN
 refine (bO (l:=gs) (i:=v - 2 - ins.length) (by omega)).elim λg hg=>?_
 have cb:out=xL ⟨L,C,F⟩ g:=ae0 g kN hg
 have PX:0<=IntKind.i64.wrap (IntKind.i64.wrap ((v:Int) - 2) - (ins.length:Int)):=aH
 have hg6:gs[(IntKind.i64.wrap (IntKind.i64.wrap ((v:Int) - 2) - (ins.length:Int))).toNat]?=some g:=by rw [hq3];exact hg
 have oi:g.op=7->mG L (cC g):=oi g kN hg
 have K6:g.op≠7->Kh C (cC g) (qj C (cC g))/\(qj C (cC g)).length<=100000000/\∀y∈qj C (cC g),mG L y:=K6 g kN hg
 unfold xL at cb
 simp only [iW] at cb
 obtain ⟨O,hO⟩:∃O,cC g=O:=⟨_,rfl⟩
 obtain ⟨M,hM⟩:∃M,qj C O=M:=⟨_,rfl⟩
 rw [hO] at oi K6 cb
 rw [hM] at K6 cb
 clear h ae0 q1 q2 q3 Kj
 cbv
 refine ⟨g,⟨PX,hg6⟩,?_⟩
 cbv
 refine ⟨g,⟨by exact bp,trivial⟩,?_⟩
 cbv
 refine ⟨g,⟨PX,hg6⟩,?_⟩
 cbv
 refine ⟨λh=>?_,λh=>?_⟩
 rotate_left
 ·have h7:g.op=7:=aH
  have ia:=oi h7
  have hle:=ia.le
  rw [if_pos h7] at cb
  have w5:IntKind.i64.wrap (1+cU L O)=1+cU L O:=dt (by omega) (by omega)
  obtain ⟨X,hX⟩:∃X,1+cU L O=X:=⟨_,rfl⟩
  have w5:=w5.trans hX
  rw [hX] at cb
  have o1:true=out.isSome:=by rw [cb];rfl
  have o2:L++[X]=(out.getD ⟨L,C,F⟩).labels:=by rw [cb];rfl
  have o3:C++[[[(v:Int)]]]=(out.getD ⟨L,C,F⟩).gG:=by rw [cb];rfl
  have o4:F++[O]=(out.getD ⟨L,C,F⟩).leaves:=by rw [cb];rfl
  clear h
  cbv
  refine Sat.freeze 6 rfl rfl ?_
  refine Sat.j2 (Dz 1 0) ?_
  cbv
  refine ⟨⟨⟨ins,gs,outs,dr⟩,⟨L,C,F⟩,O⟩,⟨.inl ⟨by have gS:=hO;exact bX,rfl⟩,ia⟩,?_⟩
  cbv
  refine ⟨[X],⟨by have bH:=w5;exact bX,b1,b2⟩,?_⟩
  cbv
  refine ⟨[[[(v:Int)]]],⟨by exact bp,b3,b4⟩,?_⟩
  cbv
  refine ⟨[O],⟨by have gS:=hO;exact bX,b5,b6⟩,?_⟩
  cbv
  refine ⟨(),[],[(.c 0 4,1),(.c 0 5,2),(.c 0 6,3)],?_,by have fc:=o2;have sr:=o3;have yo:=o4;exact bh,⟨trivial⟩⟩
  cbv
  exact ⟨by have eK:=o1;exact qF,trivial⟩
 have h7:g.op≠7:=aH
 obtain ⟨hMg,hMl,hMy⟩:=K6 h7
 have bW:=hMg.ne
 rw [if_neg h7] at cb
 rcases M with _|⟨x,r⟩
 ·cases (show False by simp at bW)
 have asp:Kh C O (x :: r):=hMg
 clear h
 cbv
 refine gw.io aqn ⟨⟨ins,gs,outs,dr⟩,⟨L,C,F⟩,O,x :: r⟩ [0,1,2,3,99] rfl (by have gS:=hO;exact bX) (by exact aM) ⟨asp⟩ λ_ _=>?_
 obtain ⟨b,hb⟩:∃b,kh (cU L) x r=b:=⟨_,rfl⟩
 have eD:r.length<=100000000/\(∀y∈x :: r,mG L y)/\kh (cU L) x r=b:=⟨by rw [qd] at hMl;omega,hMy,hb⟩
 have o9:b∈x :: r:=hb ▸ I7
 have ia:=hMy b o9
 have hle:=ia.le
 have w5:IntKind.i64.wrap (1+cU L b)=1+cU L b:=dt (by omega) (by omega)
 obtain ⟨X,hX⟩:∃X,1+cU L b=X:=⟨_,rfl⟩
 have w5:=w5.trans hX
 simp only [hb,hX] at cb
 have hz:(0:Int)<=0/\(x :: r)[(0:Int).toNat]?=some x:=⟨mr _,rfl⟩
 have c1:(((x :: r).length:Nat)+1)*24<=140737488355328:=by omega
 cbv
 refine gw.vL amT (λa y=>λz=>(df z).1) ⟨⟨ins,gs,outs,dr⟩,⟨L,C,F⟩,x,r,b⟩ [4,0,1,2,3,7] rfl (by exact bp) (by exact aM) ⟨eD⟩ λ_ _=>?_
 cbv
 refine Sat.freeze 7 rfl rfl ?_
 refine Sat.j2 (Dz 1 0) ?_
 cbv
 refine ⟨x,⟨hz⟩,?_⟩
 cbv
 refine ⟨λh=>?_,λh=>?_⟩
 ·have lS:(x.length:Int)=0:=aH
  have lS:x.length=0:=by omega
  simp only [JA,lS,if_true] at cb
  clear h
  cbv
  refine Sat.j2 (Dz 1 0) ?_
  cbv
  refine ⟨λh=>?_,λh=>?_⟩
  ·have sf:(400:Int) < ((x :: r).length:Nat):=aH
   have sf:400 < (x :: r).length:=by omega
   rw [if_pos sf] at cb
   have o1:false=out.isSome:=by rw [cb];rfl
   have o2:L=(out.getD ⟨L,C,F⟩).labels:=by rw [cb];rfl
   have o3:C=(out.getD ⟨L,C,F⟩).gG:=by rw [cb];rfl
   have o4:F=(out.getD ⟨L,C,F⟩).leaves:=by rw [cb];rfl
   cbv
   refine ⟨(),[],[(.c 0 4,1),(.c 0 5,2),(.c 0 6,3)],?_,by have fc:=o2;have sr:=o3;have yo:=o4;exact bh,⟨trivial⟩⟩
   cbv
   exact ⟨by have eK:=o1;exact qF,trivial⟩
  ·have sf:((x :: r).length:Nat)<=(400:Int):=aH
   have sf:¬400 < (x :: r).length:=by omega
   rw [if_neg sf] at cb
   have o1:true=out.isSome:=by rw [cb];rfl
   have o2:L++[X]=(out.getD ⟨L,C,F⟩).labels:=by rw [cb];rfl
   have o3:C++[x :: r]=(out.getD ⟨L,C,F⟩).gG:=by rw [cb];rfl
   have o4:F++[b]=(out.getD ⟨L,C,F⟩).leaves:=by rw [cb];rfl
   clear h
   cbv
   refine Sat.j2 (Dz 1 0) ?_
   cbv
   refine ⟨⟨⟨ins,gs,outs,dr⟩,⟨L,C,F⟩,b⟩,⟨.inl ⟨by exact bp,rfl⟩,ia⟩,?_⟩
   cbv
   refine ⟨[X],⟨by have bH:=w5;exact bX,b1,b2⟩,?_⟩
   cbv
   refine ⟨[x :: r],⟨by exact bp,b3,b4⟩,?_⟩
   cbv
   refine ⟨[b],⟨by exact bp,b5,b6⟩,?_⟩
   cbv
   refine ⟨(),[],[(.c 0 4,1),(.c 0 5,2),(.c 0 6,3)],?_,by have fc:=o2;have sr:=o3;have yo:=o4;exact bh,⟨trivial⟩⟩
   cbv
   exact ⟨by have eK:=o1;exact qF,trivial⟩
 ·have lS:¬(x.length:Int)=0:=aH
  have lS:¬x.length=0:=by omega
  simp only [JA,lS,if_false] at cb
  have c1:(([[(v:Int)]]:List (List Int)).length+(x :: r).length)*24<=140737488355328:=by rw [xC];omega
  have c2:([[(v:Int)]]:List (List Int)).length+(x :: r).length<=9223372036854775807:=by rw [xC];omega
  clear h
  cbv
  refine ⟨x :: r,⟨by exact bp,c1,c2⟩,?_⟩
  cbv
  refine Sat.freeze 8 rfl rfl ?_
  refine Sat.j2 (Dz 1 0) ?_
  cbv
  refine ⟨λh=>?_,λh=>?_⟩
  ·have sf:400 < ([[(v:Int)]]++(x :: r)).length:=aH
   have sf:400 < ([(v:Int)] :: x :: r).length:=sf
   rw [if_pos sf] at cb
   have o1:false=out.isSome:=by rw [cb];rfl
   have o2:L=(out.getD ⟨L,C,F⟩).labels:=by rw [cb];rfl
   have o3:C=(out.getD ⟨L,C,F⟩).gG:=by rw [cb];rfl
   have o4:F=(out.getD ⟨L,C,F⟩).leaves:=by rw [cb];rfl
   cbv
   refine ⟨(),[],[(.c 0 4,1),(.c 0 5,2),(.c 0 6,3)],?_,by have fc:=o2;have sr:=o3;have yo:=o4;exact bh,⟨trivial⟩⟩
   cbv
   exact ⟨by have eK:=o1;exact qF,trivial⟩
  ·have sf:([[(v:Int)]]++(x :: r)).length<=400:=aH
   have sf:¬400 < ([(v:Int)] :: x :: r).length:=Nat.not_lt.2 sf
   rw [if_neg sf] at cb
   have o1:true=out.isSome:=by rw [cb];rfl
   have o2:L++[X]=(out.getD ⟨L,C,F⟩).labels:=by rw [cb];rfl
   have o3:C++[[(v:Int)] :: x :: r]=(out.getD ⟨L,C,F⟩).gG:=by rw [cb];rfl
   have o4:F++[b]=(out.getD ⟨L,C,F⟩).leaves:=by rw [cb];rfl
   clear h
   cbv
   refine Sat.j2 (Dz 1 0) ?_
   cbv
   refine ⟨⟨⟨ins,gs,outs,dr⟩,⟨L,C,F⟩,b⟩,⟨.inl ⟨by exact bp,rfl⟩,ia⟩,?_⟩
   cbv
   refine ⟨[X],⟨by have bH:=w5;exact bX,b1,b2⟩,?_⟩
   cbv
   refine ⟨[[(v:Int)] :: x :: r],⟨by exact bp,b3,b4⟩,?_⟩
   cbv
   refine ⟨[b],⟨by exact bp,b5,b6⟩,?_⟩
   cbv
   refine ⟨(),[],[(.c 0 4,1),(.c 0 5,2),(.c 0 6,3)],?_,by have fc:=o2;have sr:=o3;have yo:=o4;exact bh,⟨trivial⟩⟩
   cbv
   exact ⟨by have eK:=o1;exact qF,trivial⟩
end Go.Proofs.Pk
