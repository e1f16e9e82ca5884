import Derived.Test.YthnhbemmlfaihaaGreatA13
import Derived.Test.YthnhbemmlfaihaaGreatA23
set_option linter.unusedVariables false
set_option linter.unusedSimpArgs false
set_option maxRecDepth 10000
set_option maxHeartbeats 64000000
namespace Go.Proofs.Pk
open Go Go.Vc
structure ai1 where
 n:Net
 s:dW
 v:Nat
 out:Option dW
structure Cr (n:Net) (s:dW) (v:Nat) (out:Option dW):Prop where
 v2:2<=v
 l1:s.labels.length=v
 l2:s.gv.length=v
 l3:s.leaves.length=v
 mK:n.ins.length+n.cq.length<=1000000
 lt:v < 2+n.ins.length+n.cq.length
 inp:v < 2+n.ins.length->out=some ⟨s.labels++[0],s.gv++[[[(v:Int)]]],s.leaves++[[]]⟩
 gat:∀g,2+n.ins.length<=v->n.cq[v - 2 - n.ins.length]?=some g->out=uB s g
 rd:∀g,2+n.ins.length<=v->n.cq[v - 2 - n.ins.length]?=some g->g.op=7->jZ s.labels (cH g)
 mg:∀g,2+n.ins.length<=v->n.cq[v - 2 - n.ins.length]?=some g->g.op≠7->Fi s.gv (cH g) (nP s.gv (cH g))/\(nP s.gv (cH g)).length<=100000000/\∀y∈nP s.gv (cH g),jZ s.labels y
@[reducible] noncomputable def NdS:nU where
 α:=ai1
 args x:=[.ptr 0 0,.i .i64 (λ_=>(x.v:Int))]
 io x:=Cn x.n x.s 0
 pre x:=Cr x.n x.s x.v x.out
 β:=Unit
 post _ _:=True
 mv:=[1,2,3]
 res x _:=.b (λ_=>x.out.isSome)
 ld x _:=Cn x.n (x.out.getD x.s) 0
noncomputable def ai2 (n m:Nat):Ctx:=cW n m [(256,Tryz.f256),(257,Tryz.f257)] [(259,Ff),(186,Jl)] [256,257]
theorem zu (n m:Nat):CB PP (ai2 n m):=cZ n m ⟨fo Tryz.func256,fo Tryz.func257,trivial⟩ ⟨Ir,M3,trivial⟩
noncomputable def cNd (n m:Nat):Ctx:=cW n m [(256,Tryz.f256),(257,Tryz.f257)] [(259,Ff),(186,Jl)] [256,257] [] [1,4,10,13,15]
theorem ahw (n m:Nat):CB PP (cNd n m):=cZ n m ⟨fo Tryz.func256,fo Tryz.func257,trivial⟩ ⟨Ir,M3,trivial⟩
noncomputable def ai3 (n m:Nat):Ctx:=cW n m [] [] [] [] [] [36]
theorem afY (n m:Nat):CB PP (ai3 n m):=cZ n m trivial trivial
theorem WK:l5 PP 237 NdS:=by
 refine qZ (ahw 1 0) (fo Tryz.func237) (λa y=>rfl) (λa=>⟨rfl,rfl⟩) (by show ([1,2,3]:List Nat).Nodup;decide) ?_
 rintro ⟨⟨ins,gs,outs,dr⟩,⟨L,C,F⟩,v,out⟩ hx
 obtain ⟨wA,jc,k8,JH,Ol,aP,Jp,XH,Kb,F5⟩:Cr ⟨ins,gs,outs,dr⟩ ⟨L,C,F⟩ v out:=hx
 have jc:L.length=v:=jc
 have k8:C.length=v:=k8
 have JH:F.length=v:=JH
 have Ol:ins.length+gs.length<=1000000:=Ol
 have aP:v < 2+ins.length+gs.length:=aP
 have Jp:v < 2+ins.length->out=some ⟨L++[0],C++[[[(v:Int)]]],F++[[]]⟩:=Jp
 have w1:IntKind.i64.wrap ((v:Int) - 2)=(v:Int) - 2:=dV (by omega) (by omega)
 have w2:IntKind.i64.wrap (IntKind.i64.wrap ((v:Int) - 2) - (ins.length:Int))=(v:Int) - 2 - ins.length:=by rw [w1];exact dV (by omega) (by omega)
 have q1:IntKind.i64.wrap (IntKind.i64.wrap ((v:Int) - 2) - (ins.length:Int)) < 0->v < 2+ins.length:=λh=>by rw [w2] at h;omega
 have q2:0<=IntKind.i64.wrap (IntKind.i64.wrap ((v:Int) - 2) - (ins.length:Int))->2+ins.length<=v:=λh=>by rw [w2] at h;omega
 have q3:2+ins.length<=v->(IntKind.i64.wrap (IntKind.i64.wrap ((v:Int) - 2) - (ins.length:Int))).toNat=v - 2 - ins.length:=λh=>by rw [w2];omega
 have b1:(L.length+1)*8<=140737488355328:=by omega
 have b2:L.length+1<=9223372036854775807:=by omega
 have b3:(C.length+1)*24<=140737488355328:=by omega
 have b4:C.length+1<=9223372036854775807:=by omega
 have b5:(F.length+1)*24<=140737488355328:=by omega
 have b6:F.length+1<=9223372036854775807:=by omega
 refine ⟨?_⟩
 cbv
 refine Sat.j8 (afY 1 0) ?_
 cbv
 refine ⟨[[(v:Int)]],⟨by exact a8,rfl⟩,?_⟩
 cbv
 refine ⟨λh=>?_,λh=>?_⟩
 ·have gS:=q1 aG
  have ho:=Jp gS
  have o1:true=out.isSome:=by rw [ho];rfl
  have o2:L++[0]=(out.getD ⟨L,C,F⟩).labels:=by rw [ho];rfl
  have o3:C++[[[(v:Int)]]]=(out.getD ⟨L,C,F⟩).gv:=by rw [ho];rfl
  have o4:F++[[]]=(out.getD ⟨L,C,F⟩).leaves:=by rw [ho];rfl
  clear h
  cbv
  refine Sat.freeze 6 rfl rfl ?_
  refine Sat.j8 (zu 1 0) ?_
  cbv
  refine ⟨[0],⟨by exact a8,b1,b2⟩,?_⟩
  cbv
  refine ⟨[[[(v:Int)]]],⟨by exact a8,b3,b4⟩,?_⟩
  cbv
  refine ⟨[[]],⟨by exact a8,b5,b6⟩,?_⟩
  cbv
  refine ⟨(),[],[(.c 0 4,1),(.c 0 5,2),(.c 0 6,3)],?_,by have eH:=o2;have pz:=o3;have va:=o4;exact bq,⟨trivial⟩⟩
  cbv
  exact ⟨by have eV:=o1;exact wD,trivial⟩
 have jE:=q2 aG
 have hq3:=q3 jE
 refine (cg (l:=gs) (i:=v - 2 - ins.length) (by omega)).elim λg hg=>?_
 have di:out=uB ⟨L,C,F⟩ g:=XH g jE hg
 have ZI:0<=IntKind.i64.wrap (IntKind.i64.wrap ((v:Int) - 2) - (ins.length:Int)):=aG
 have ZJ:gs[(IntKind.i64.wrap (IntKind.i64.wrap ((v:Int) - 2) - (ins.length:Int))).toNat]?=some g:=by rw [hq3];exact hg
 have Kb:g.op=7->jZ L (cH g):=Kb g jE hg
 have F5:g.op≠7->Fi C (cH g) (nP C (cH g))/\(nP C (cH g)).length<=100000000/\∀y∈nP C (cH g),jZ L y:=F5 g jE hg
 unfold uB at di
 simp only [jc] at di
 obtain ⟨O,hO⟩:∃O,cH g=O:=⟨_,rfl⟩
 obtain ⟨M,hM⟩:∃M,nP C O=M:=⟨_,rfl⟩
 rw [hO] at Kb F5 di
 rw [hM] at F5 di
 clear h XH q1 q2 q3 Jp
 cbv
 refine ⟨g,⟨ZI,ZJ⟩,?_⟩
 cbv
 refine ⟨g,⟨by exact a8,trivial⟩,?_⟩
 cbv
 refine ⟨g,⟨ZI,ZJ⟩,?_⟩
 cbv
 refine ⟨λh=>?_,λh=>?_⟩
 rotate_left
 ·have h7:g.op=7:=aG
  have e8:=Kb h7
  have hle:=e8.le
  rw [if_pos h7] at di
  have w5:IntKind.i64.wrap (1+bW L O)=1+bW L O:=dV (by omega) (by omega)
  obtain ⟨X,hX⟩:∃X,1+bW L O=X:=⟨_,rfl⟩
  have w5:=w5.trans hX
  rw [hX] at di
  have o1:true=out.isSome:=by rw [di];rfl
  have o2:L++[X]=(out.getD ⟨L,C,F⟩).labels:=by rw [di];rfl
  have o3:C++[[[(v:Int)]]]=(out.getD ⟨L,C,F⟩).gv:=by rw [di];rfl
  have o4:F++[O]=(out.getD ⟨L,C,F⟩).leaves:=by rw [di];rfl
  clear h
  cbv
  refine Sat.freeze 6 rfl rfl ?_
  refine Sat.j8 (zu 1 0) ?_
  cbv
  refine ⟨⟨⟨ins,gs,outs,dr⟩,⟨L,C,F⟩,O⟩,⟨.inl ⟨by have iJ:=hO;exact bM,rfl⟩,e8⟩,?_⟩
  cbv
  refine ⟨[X],⟨by have bK:=w5;exact bM,b1,b2⟩,?_⟩
  cbv
  refine ⟨[[[(v:Int)]]],⟨by exact a8,b3,b4⟩,?_⟩
  cbv
  refine ⟨[O],⟨by have iJ:=hO;exact bM,b5,b6⟩,?_⟩
  cbv
  refine ⟨(),[],[(.c 0 4,1),(.c 0 5,2),(.c 0 6,3)],?_,by have eH:=o2;have pz:=o3;have va:=o4;exact bq,⟨trivial⟩⟩
  cbv
  exact ⟨by have eV:=o1;exact wD,trivial⟩
 have h7:g.op≠7:=aG
 obtain ⟨ZK,hMl,ZL⟩:=F5 h7
 have bR:=ZK.ne
 rw [if_neg h7] at di
 rcases M with _|⟨x,r⟩
 ·cases (show False by simp at bR)
 have ai4:Fi C O (x :: r):=ZK
 clear h
 cbv
 refine iW.io ahu ⟨⟨ins,gs,outs,dr⟩,⟨L,C,F⟩,O,x :: r⟩ [0,1,2,3,99] rfl (by have iJ:=hO;exact bM) (by exact aW) ⟨ai4⟩ λ_ _=>?_
 obtain ⟨b,hb⟩:∃b,iO (bW L) x r=b:=⟨_,rfl⟩
 have dR:r.length<=100000000/\(∀y∈x :: r,jZ L y)/\iO (bW L) x r=b:=⟨by rw [mY] at hMl;omega,ZL,hb⟩
 have oy:b∈x :: r:=hb ▸ DR
 have e8:=ZL b oy
 have hle:=e8.le
 have w5:IntKind.i64.wrap (1+bW L b)=1+bW L b:=dV (by omega) (by omega)
 obtain ⟨X,hX⟩:∃X,1+bW L b=X:=⟨_,rfl⟩
 have w5:=w5.trans hX
 simp only [hb,hX] at di
 have hz:(0:Int)<=0/\(x :: r)[(0:Int).toNat]?=some x:=⟨kS _,rfl⟩
 have c1:(((x :: r).length:Nat)+1)*24<=140737488355328:=by omega
 cbv
 refine iW.tP aeP (λa y=>λz=>(dq z).1) ⟨⟨ins,gs,outs,dr⟩,⟨L,C,F⟩,x,r,b⟩ [4,0,1,2,3,7] rfl (by exact a8) (by exact aW) ⟨dR⟩ λ_ _=>?_
 cbv
 refine Sat.freeze 7 rfl rfl ?_
 refine Sat.j8 (zu 1 0) ?_
 cbv
 refine ⟨x,⟨hz⟩,?_⟩
 cbv
 refine ⟨λh=>?_,λh=>?_⟩
 ·have jd:(x.length:Int)=0:=aG
  have jd:x.length=0:=by omega
  simp only [Et,jd,if_true] at di
  clear h
  cbv
  refine Sat.j8 (zu 1 0) ?_
  cbv
  refine ⟨λh=>?_,λh=>?_⟩
  ·have pr:(400:Int) < ((x :: r).length:Nat):=aG
   have pr:400 < (x :: r).length:=by omega
   rw [if_pos pr] at di
   have o1:false=out.isSome:=by rw [di];rfl
   have o2:L=(out.getD ⟨L,C,F⟩).labels:=by rw [di];rfl
   have o3:C=(out.getD ⟨L,C,F⟩).gv:=by rw [di];rfl
   have o4:F=(out.getD ⟨L,C,F⟩).leaves:=by rw [di];rfl
   cbv
   refine ⟨(),[],[(.c 0 4,1),(.c 0 5,2),(.c 0 6,3)],?_,by have eH:=o2;have pz:=o3;have va:=o4;exact bq,⟨trivial⟩⟩
   cbv
   exact ⟨by have eV:=o1;exact wD,trivial⟩
  ·have pr:((x :: r).length:Nat)<=(400:Int):=aG
   have pr:¬400 < (x :: r).length:=by omega
   rw [if_neg pr] at di
   have o1:true=out.isSome:=by rw [di];rfl
   have o2:L++[X]=(out.getD ⟨L,C,F⟩).labels:=by rw [di];rfl
   have o3:C++[x :: r]=(out.getD ⟨L,C,F⟩).gv:=by rw [di];rfl
   have o4:F++[b]=(out.getD ⟨L,C,F⟩).leaves:=by rw [di];rfl
   clear h
   cbv
   refine Sat.j8 (zu 1 0) ?_
   cbv
   refine ⟨⟨⟨ins,gs,outs,dr⟩,⟨L,C,F⟩,b⟩,⟨.inl ⟨by exact a8,rfl⟩,e8⟩,?_⟩
   cbv
   refine ⟨[X],⟨by have bK:=w5;exact bM,b1,b2⟩,?_⟩
   cbv
   refine ⟨[x :: r],⟨by exact a8,b3,b4⟩,?_⟩
   cbv
   refine ⟨[b],⟨by exact a8,b5,b6⟩,?_⟩
   cbv
   refine ⟨(),[],[(.c 0 4,1),(.c 0 5,2),(.c 0 6,3)],?_,by have eH:=o2;have pz:=o3;have va:=o4;exact bq,⟨trivial⟩⟩
   cbv
   exact ⟨by have eV:=o1;exact wD,trivial⟩
 ·have jd:¬(x.length:Int)=0:=aG
  have jd:¬x.length=0:=by omega
  simp only [Et,jd,if_false] at di
  have c1:(([[(v:Int)]]:List (List Int)).length+(x :: r).length)*24<=140737488355328:=by rw [y5];omega
  have c2:([[(v:Int)]]:List (List Int)).length+(x :: r).length<=9223372036854775807:=by rw [y5];omega
  clear h
  cbv
  refine ⟨x :: r,⟨by exact a8,c1,c2⟩,?_⟩
  cbv
  refine Sat.freeze 8 rfl rfl ?_
  refine Sat.j8 (zu 1 0) ?_
  cbv
  refine ⟨λh=>?_,λh=>?_⟩
  ·have pr:400 < ([[(v:Int)]]++(x :: r)).length:=aG
   have pr:400 < ([(v:Int)] :: x :: r).length:=pr
   rw [if_pos pr] at di
   have o1:false=out.isSome:=by rw [di];rfl
   have o2:L=(out.getD ⟨L,C,F⟩).labels:=by rw [di];rfl
   have o3:C=(out.getD ⟨L,C,F⟩).gv:=by rw [di];rfl
   have o4:F=(out.getD ⟨L,C,F⟩).leaves:=by rw [di];rfl
   cbv
   refine ⟨(),[],[(.c 0 4,1),(.c 0 5,2),(.c 0 6,3)],?_,by have eH:=o2;have pz:=o3;have va:=o4;exact bq,⟨trivial⟩⟩
   cbv
   exact ⟨by have eV:=o1;exact wD,trivial⟩
  ·have pr:([[(v:Int)]]++(x :: r)).length<=400:=aG
   have pr:¬400 < ([(v:Int)] :: x :: r).length:=Nat.not_lt.2 pr
   rw [if_neg pr] at di
   have o1:true=out.isSome:=by rw [di];rfl
   have o2:L++[X]=(out.getD ⟨L,C,F⟩).labels:=by rw [di];rfl
   have o3:C++[[(v:Int)] :: x :: r]=(out.getD ⟨L,C,F⟩).gv:=by rw [di];rfl
   have o4:F++[b]=(out.getD ⟨L,C,F⟩).leaves:=by rw [di];rfl
   clear h
   cbv
   refine Sat.j8 (zu 1 0) ?_
   cbv
   refine ⟨⟨⟨ins,gs,outs,dr⟩,⟨L,C,F⟩,b⟩,⟨.inl ⟨by exact a8,rfl⟩,e8⟩,?_⟩
   cbv
   refine ⟨[X],⟨by have bK:=w5;exact bM,b1,b2⟩,?_⟩
   cbv
   refine ⟨[[(v:Int)] :: x :: r],⟨by exact a8,b3,b4⟩,?_⟩
   cbv
   refine ⟨[b],⟨by exact a8,b5,b6⟩,?_⟩
   cbv
   refine ⟨(),[],[(.c 0 4,1),(.c 0 5,2),(.c 0 6,3)],?_,by have eH:=o2;have pz:=o3;have va:=o4;exact bq,⟨trivial⟩⟩
   cbv
   exact ⟨by have eV:=o1;exact wD,trivial⟩
end Go.Proofs.Pk
