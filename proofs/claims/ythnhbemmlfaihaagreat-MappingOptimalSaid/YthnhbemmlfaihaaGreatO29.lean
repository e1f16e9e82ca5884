import Derived.Test.YthnhbemmlfaihaaGreatO13
import Derived.Test.YthnhbemmlfaihaaGreatO28
set_option linter.unusedVariables false
set_option linter.unusedSimpArgs false
set_option maxRecDepth 10000
set_option maxHeartbeats 64000000
namespace Go.Proofs.Pk
open Go Go.Vc
structure ap4 where
 n:Net
 s:dW
 v:Nat
 out:Option dW
structure Fw (n:Net) (s:dW) (v:Nat) (out:Option dW):Prop where
 v2:2<=v
 l1:s.labels.length=v
 l2:s.eT.length=v
 l3:s.leaves.length=v
 j6:n.ins.length+n.aY.length<=1000000
 lt:v < 2+n.ins.length+n.aY.length
 inp:v < 2+n.ins.length->out=some ⟨s.labels++[0],s.eT++[[[(v:Int)]]],s.leaves++[[]]⟩
 gat:∀g,2+n.ins.length<=v->n.aY[v - 2 - n.ins.length]?=some g->out=wU s g
 rd:∀g,2+n.ins.length<=v->n.aY[v - 2 - n.ins.length]?=some g->g.op=7->jY s.labels (ca g)
 mg:∀g,2+n.ins.length<=v->n.aY[v - 2 - n.ins.length]?=some g->g.op≠7->IH s.eT (ca g) (pI s.eT (ca g))/\(pI s.eT (ca g)).length<=100000000/\∀y∈pI s.eT (ca g),jY s.labels y
@[reducible] noncomputable def NdS:o6 where
 α:=ap4
 args x:=[.ptr 0 0,.i .i64 (λ_=>(x.v:Int))]
 io x:=Ft x.n x.s 0
 pre x:=Fw x.n x.s x.v x.out
 β:=Unit
 post _ _:=True
 mv:=[1,2,3]
 res x _:=.b (λ_=>x.out.isSome)
 l7 x _:=Ft x.n (x.out.getD x.s) 0
noncomputable def ap5 (n m:Nat):Ctx:=dM n m [(256,Tryz.f256),(257,Tryz.f257)] [(259,IE),(186,M4)] [256,257]
theorem Cm (n m:Nat):CB PP (ap5 n m):=dP n m ⟨fo Tryz.func256,fo Tryz.func257,trivial⟩ ⟨L3,Rb,trivial⟩
noncomputable def cNd (n m:Nat):Ctx:=dM n m [(256,Tryz.f256),(257,Tryz.f257)] [(259,IE),(186,M4)] [256,257] [] [1,4,10,13,15]
theorem an7 (n m:Nat):CB PP (cNd n m):=dP n m ⟨fo Tryz.func256,fo Tryz.func257,trivial⟩ ⟨L3,Rb,trivial⟩
noncomputable def ap6 (n m:Nat):Ctx:=dM n m [] [] [] [] [] [36]
theorem al7 (n m:Nat):CB PP (ap6 n m):=dP n m trivial trivial
theorem abB:nh PP 237 NdS:=by
 refine sA (an7 1 0) (fo Tryz.func237) (λa y=>rfl) (λa=>⟨rfl,rfl⟩) (by show ([1,2,3]:List Nat).Nodup;decide) ?_
 rintro ⟨⟨ins,gs,outs,dr⟩,⟨L,C,F⟩,v,out⟩ hx
 obtain ⟨qE,gQ,mD,FL,uI,aO,M7,acV,sD,tD⟩:Fw ⟨ins,gs,outs,dr⟩ ⟨L,C,F⟩ v out:=hx
 have gQ:L.length=v:=gQ
 have mD:C.length=v:=mD
 have FL:F.length=v:=FL
 have uI:ins.length+gs.length<=1000000:=uI
 have aO:v < 2+ins.length+gs.length:=aO
 have M7:v < 2+ins.length->out=some ⟨L++[0],C++[[[(v:Int)]]],F++[[]]⟩:=M7
 have w1:IntKind.i64.wrap ((v:Int) - 2)=(v:Int) - 2:=cW (by omega) (by omega)
 have w2:IntKind.i64.wrap (IntKind.i64.wrap ((v:Int) - 2) - (ins.length:Int))=(v:Int) - 2 - ins.length:=by rw [w1];exact cW (by omega) (by omega)
 have q1:IntKind.i64.wrap (IntKind.i64.wrap ((v:Int) - 2) - (ins.length:Int)) < 0->v < 2+ins.length:=λh=>by rw [w2] at h;omega
 have q2:0<=IntKind.i64.wrap (IntKind.i64.wrap ((v:Int) - 2) - (ins.length:Int))->2+ins.length<=v:=λh=>by rw [w2] at h;omega
 have q3:2+ins.length<=v->(IntKind.i64.wrap (IntKind.i64.wrap ((v:Int) - 2) - (ins.length:Int))).toNat=v - 2 - ins.length:=λh=>by rw [w2];omega
 have b1:(L.length+1)*8<=140737488355328:=by omega
 have b2:L.length+1<=9223372036854775807:=by omega
 have b3:(C.length+1)*24<=140737488355328:=by omega
 have b4:C.length+1<=9223372036854775807:=by omega
 have b5:(F.length+1)*24<=140737488355328:=by omega
 have b6:F.length+1<=9223372036854775807:=by omega
 refine ⟨?_⟩
 cbv
 refine Sat.jN (al7 1 0) ?_
 cbv
 refine ⟨[[(v:Int)]],⟨by exact bp,rfl⟩,?_⟩
 cbv
 refine ⟨λh=>?_,λh=>?_⟩
 ·have fL:=q1 aL
  have ho:=M7 fL
  have o1:true=out.isSome:=by rw [ho];rfl
  have o2:L++[0]=(out.getD ⟨L,C,F⟩).labels:=by rw [ho];rfl
  have o3:C++[[[(v:Int)]]]=(out.getD ⟨L,C,F⟩).eT:=by rw [ho];rfl
  have o4:F++[[]]=(out.getD ⟨L,C,F⟩).leaves:=by rw [ho];rfl
  clear h
  cbv
  refine Sat.freeze 6 rfl rfl ?_
  refine Sat.jN (Cm 1 0) ?_
  cbv
  refine ⟨[0],⟨by exact bp,b1,b2⟩,?_⟩
  cbv
  refine ⟨[[[(v:Int)]]],⟨by exact bp,b3,b4⟩,?_⟩
  cbv
  refine ⟨[[]],⟨by exact bp,b5,b6⟩,?_⟩
  cbv
  refine ⟨(),[],[(.c 0 4,1),(.c 0 5,2),(.c 0 6,3)],?_,by have fq:=o2;have rD:=o3;have xz:=o4;exact a8,⟨trivial⟩⟩
  cbv
  exact ⟨by have fH:=o1;exact y6,trivial⟩
 have j5:=q2 aL
 have hq3:=q3 j5
 refine (bK (l:=gs) (i:=v - 2 - ins.length) (by omega)).elim λg hg=>?_
 have du:out=wU ⟨L,C,F⟩ g:=acV g j5 hg
 have hn6:0<=IntKind.i64.wrap (IntKind.i64.wrap ((v:Int) - 2) - (ins.length:Int)):=aL
 have hg6:gs[(IntKind.i64.wrap (IntKind.i64.wrap ((v:Int) - 2) - (ins.length:Int))).toNat]?=some g:=by rw [hq3];exact hg
 have sD:g.op=7->jY L (ca g):=sD g j5 hg
 have tD:g.op≠7->IH C (ca g) (pI C (ca g))/\(pI C (ca g)).length<=100000000/\∀y∈pI C (ca g),jY L y:=tD g j5 hg
 unfold wU at du
 simp only [gQ] at du
 obtain ⟨O,hO⟩:∃O,ca g=O:=⟨_,rfl⟩
 obtain ⟨M,hM⟩:∃M,pI C O=M:=⟨_,rfl⟩
 rw [hO] at sD tD du
 rw [hM] at tD du
 clear h acV q1 q2 q3 M7
 cbv
 refine ⟨g,⟨hn6,hg6⟩,?_⟩
 cbv
 refine ⟨g,⟨by exact bp,trivial⟩,?_⟩
 cbv
 refine ⟨g,⟨hn6,hg6⟩,?_⟩
 cbv
 refine ⟨λh=>?_,λh=>?_⟩
 rotate_left
 ·have h7:g.op=7:=aL
  have gJ:=sD h7
  have hle:=gJ.le
  rw [if_pos h7] at du
  have w5:IntKind.i64.wrap (1+bR L O)=1+bR L O:=cW (by omega) (by omega)
  obtain ⟨X,hX⟩:∃X,1+bR L O=X:=⟨_,rfl⟩
  have w5:=w5.trans hX
  rw [hX] at du
  have o1:true=out.isSome:=by rw [du];rfl
  have o2:L++[X]=(out.getD ⟨L,C,F⟩).labels:=by rw [du];rfl
  have o3:C++[[[(v:Int)]]]=(out.getD ⟨L,C,F⟩).eT:=by rw [du];rfl
  have o4:F++[O]=(out.getD ⟨L,C,F⟩).leaves:=by rw [du];rfl
  clear h
  cbv
  refine Sat.freeze 6 rfl rfl ?_
  refine Sat.jN (Cm 1 0) ?_
  cbv
  refine ⟨⟨⟨ins,gs,outs,dr⟩,⟨L,C,F⟩,O⟩,⟨.inl ⟨by have jM:=hO;exact cd,rfl⟩,gJ⟩,?_⟩
  cbv
  refine ⟨[X],⟨by have bD:=w5;exact cd,b1,b2⟩,?_⟩
  cbv
  refine ⟨[[[(v:Int)]]],⟨by exact bp,b3,b4⟩,?_⟩
  cbv
  refine ⟨[O],⟨by have jM:=hO;exact cd,b5,b6⟩,?_⟩
  cbv
  refine ⟨(),[],[(.c 0 4,1),(.c 0 5,2),(.c 0 6,3)],?_,by have fq:=o2;have rD:=o3;have xz:=o4;exact a8,⟨trivial⟩⟩
  cbv
  exact ⟨by have fH:=o1;exact y6,trivial⟩
 have h7:g.op≠7:=aL
 obtain ⟨hMg,NS,hMy⟩:=tD h7
 have bO:=hMg.ne
 rw [if_neg h7] at du
 rcases M with _|⟨x,r⟩
 ·cases (show False by simp at bO)
 have ap7:IH C O (x :: r):=hMg
 clear h
 cbv
 refine fh.io an5 ⟨⟨ins,gs,outs,dr⟩,⟨L,C,F⟩,O,x :: r⟩ [0,1,2,3,99] rfl (by have jM:=hO;exact cd) (by exact aM) ⟨ap7⟩ λ_ _=>?_
 obtain ⟨b,hb⟩:∃b,jU (bR L) x r=b:=⟨_,rfl⟩
 have ej:r.length<=100000000/\(∀y∈x :: r,jY L y)/\jU (bR L) x r=b:=⟨by rw [ql] at NS;omega,hMy,hb⟩
 have oN:b∈x :: r:=hb ▸ Hh
 have gJ:=hMy b oN
 have hle:=gJ.le
 have w5:IntKind.i64.wrap (1+bR L b)=1+bR L b:=cW (by omega) (by omega)
 obtain ⟨X,hX⟩:∃X,1+bR L b=X:=⟨_,rfl⟩
 have w5:=w5.trans hX
 simp only [hb,hX] at du
 have hz:(0:Int)<=0/\(x :: r)[(0:Int).toNat]?=some x:=⟨iU _,rfl⟩
 have c1:(((x :: r).length:Nat)+1)*24<=140737488355328:=by omega
 cbv
 refine fh.uT akD (λa y=>λz=>(cP z).1) ⟨⟨ins,gs,outs,dr⟩,⟨L,C,F⟩,x,r,b⟩ [4,0,1,2,3,7] rfl (by exact bp) (by exact aM) ⟨ej⟩ λ_ _=>?_
 cbv
 refine Sat.freeze 7 rfl rfl ?_
 refine Sat.jN (Cm 1 0) ?_
 cbv
 refine ⟨x,⟨hz⟩,?_⟩
 cbv
 refine ⟨λh=>?_,λh=>?_⟩
 ·have kE:(x.length:Int)=0:=aL
  have kE:x.length=0:=by omega
  simp only [HK,kE,if_true] at du
  clear h
  cbv
  refine Sat.jN (Cm 1 0) ?_
  cbv
  refine ⟨λh=>?_,λh=>?_⟩
  ·have ry:(400:Int) < ((x :: r).length:Nat):=aL
   have ry:400 < (x :: r).length:=by omega
   rw [if_pos ry] at du
   have o1:false=out.isSome:=by rw [du];rfl
   have o2:L=(out.getD ⟨L,C,F⟩).labels:=by rw [du];rfl
   have o3:C=(out.getD ⟨L,C,F⟩).eT:=by rw [du];rfl
   have o4:F=(out.getD ⟨L,C,F⟩).leaves:=by rw [du];rfl
   cbv
   refine ⟨(),[],[(.c 0 4,1),(.c 0 5,2),(.c 0 6,3)],?_,by have fq:=o2;have rD:=o3;have xz:=o4;exact a8,⟨trivial⟩⟩
   cbv
   exact ⟨by have fH:=o1;exact y6,trivial⟩
  ·have ry:((x :: r).length:Nat)<=(400:Int):=aL
   have ry:¬400 < (x :: r).length:=by omega
   rw [if_neg ry] at du
   have o1:true=out.isSome:=by rw [du];rfl
   have o2:L++[X]=(out.getD ⟨L,C,F⟩).labels:=by rw [du];rfl
   have o3:C++[x :: r]=(out.getD ⟨L,C,F⟩).eT:=by rw [du];rfl
   have o4:F++[b]=(out.getD ⟨L,C,F⟩).leaves:=by rw [du];rfl
   clear h
   cbv
   refine Sat.jN (Cm 1 0) ?_
   cbv
   refine ⟨⟨⟨ins,gs,outs,dr⟩,⟨L,C,F⟩,b⟩,⟨.inl ⟨by exact bp,rfl⟩,gJ⟩,?_⟩
   cbv
   refine ⟨[X],⟨by have bD:=w5;exact cd,b1,b2⟩,?_⟩
   cbv
   refine ⟨[x :: r],⟨by exact bp,b3,b4⟩,?_⟩
   cbv
   refine ⟨[b],⟨by exact bp,b5,b6⟩,?_⟩
   cbv
   refine ⟨(),[],[(.c 0 4,1),(.c 0 5,2),(.c 0 6,3)],?_,by have fq:=o2;have rD:=o3;have xz:=o4;exact a8,⟨trivial⟩⟩
   cbv
   exact ⟨by have fH:=o1;exact y6,trivial⟩
 ·have kE:¬(x.length:Int)=0:=aL
  have kE:¬x.length=0:=by omega
  simp only [HK,kE,if_false] at du
  have c1:(([[(v:Int)]]:List (List Int)).length+(x :: r).length)*24<=140737488355328:=by rw [sZ];omega
  have c2:([[(v:Int)]]:List (List Int)).length+(x :: r).length<=9223372036854775807:=by rw [sZ];omega
  clear h
  cbv
  refine ⟨x :: r,⟨by exact bp,c1,c2⟩,?_⟩
  cbv
  refine Sat.freeze 8 rfl rfl ?_
  refine Sat.jN (Cm 1 0) ?_
  cbv
  refine ⟨λh=>?_,λh=>?_⟩
  ·have ry:400 < ([[(v:Int)]]++(x :: r)).length:=aL
   have ry:400 < ([(v:Int)] :: x :: r).length:=ry
   rw [if_pos ry] at du
   have o1:false=out.isSome:=by rw [du];rfl
   have o2:L=(out.getD ⟨L,C,F⟩).labels:=by rw [du];rfl
   have o3:C=(out.getD ⟨L,C,F⟩).eT:=by rw [du];rfl
   have o4:F=(out.getD ⟨L,C,F⟩).leaves:=by rw [du];rfl
   cbv
   refine ⟨(),[],[(.c 0 4,1),(.c 0 5,2),(.c 0 6,3)],?_,by have fq:=o2;have rD:=o3;have xz:=o4;exact a8,⟨trivial⟩⟩
   cbv
   exact ⟨by have fH:=o1;exact y6,trivial⟩
  ·have ry:([[(v:Int)]]++(x :: r)).length<=400:=aL
   have ry:¬400 < ([(v:Int)] :: x :: r).length:=Nat.not_lt.2 ry
   rw [if_neg ry] at du
   have o1:true=out.isSome:=by rw [du];rfl
   have o2:L++[X]=(out.getD ⟨L,C,F⟩).labels:=by rw [du];rfl
   have o3:C++[[(v:Int)] :: x :: r]=(out.getD ⟨L,C,F⟩).eT:=by rw [du];rfl
   have o4:F++[b]=(out.getD ⟨L,C,F⟩).leaves:=by rw [du];rfl
   clear h
   cbv
   refine Sat.jN (Cm 1 0) ?_
   cbv
   refine ⟨⟨⟨ins,gs,outs,dr⟩,⟨L,C,F⟩,b⟩,⟨.inl ⟨by exact bp,rfl⟩,gJ⟩,?_⟩
   cbv
   refine ⟨[X],⟨by have bD:=w5;exact cd,b1,b2⟩,?_⟩
   cbv
   refine ⟨[[(v:Int)] :: x :: r],⟨by exact bp,b3,b4⟩,?_⟩
   cbv
   refine ⟨[b],⟨by exact bp,b5,b6⟩,?_⟩
   cbv
   refine ⟨(),[],[(.c 0 4,1),(.c 0 5,2),(.c 0 6,3)],?_,by have fq:=o2;have rD:=o3;have xz:=o4;exact a8,⟨trivial⟩⟩
   cbv
   exact ⟨by have fH:=o1;exact y6,trivial⟩
end Go.Proofs.Pk
