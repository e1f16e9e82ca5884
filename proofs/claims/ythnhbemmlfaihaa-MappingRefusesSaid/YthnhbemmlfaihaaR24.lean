import Derived.Test.YthnhbemmlfaihaaR13
import Derived.Test.YthnhbemmlfaihaaR23
set_option linter.unusedVariables false
set_option linter.unusedSimpArgs false
set_option maxRecDepth 10000
set_option maxHeartbeats 64000000
namespace Go.Proofs.Pk
open Go Go.Vc
structure ajx where
 n:Net
 s:dV
 v:Nat
 out:Option dV
structure CK (n:Net) (s:dV) (v:Nat) (out:Option dV):Prop where
 v2:2<=v
 l1:s.labels.length=v
 l2:s.gv.length=v
 l3:s.leaves.length=v
 o9:n.ins.length+n.cg.length<=1000000
 lt:v < 2+n.ins.length+n.cg.length
 inp:v < 2+n.ins.length->out=some ⟨s.labels++[0],s.gv++[[[(v:Int)]]],s.leaves++[[]]⟩
 gat:∀g,2+n.ins.length<=v->n.cg[v - 2 - n.ins.length]?=some g->out=uL s g
 rd:∀g,2+n.ins.length<=v->n.cg[v - 2 - n.ins.length]?=some g->g.op=7->kN s.labels (cR g)
 mg:∀g,2+n.ins.length<=v->n.cg[v - 2 - n.ins.length]?=some g->g.op≠7->FH s.gv (cR g) (n9 s.gv (cR g))/\(n9 s.gv (cR g)).length<=100000000/\∀y∈n9 s.gv (cR g),kN s.labels y
@[reducible] noncomputable def NdS:oj where
 α:=ajx
 args x:=[.ptr 0 0,.i .i64 (λ_=>(x.v:Int))]
 io x:=CH x.n x.s 0
 pre x:=CK x.n x.s x.v x.out
 β:=Unit
 post _ _:=True
 mv:=[1,2,3]
 res x _:=.b (λ_=>x.out.isSome)
 lz x _:=CH x.n (x.out.getD x.s) 0
noncomputable def ajy (n m:Nat):Ctx:=cT n m [(45,Try.f45),(46,Try.f46)] [(48,FD),(35,Jx)] [45,46]
theorem zU (n m:Nat):CB PP (ajy n m):=cW n m ⟨fo Try.func45,fo Try.func46,trivial⟩ ⟨IG,Nx,trivial⟩
noncomputable def cNd (n m:Nat):Ctx:=cT n m [(45,Try.f45),(46,Try.f46)] [(48,FD),(35,Jx)] [45,46] [] [1,4,10,13,15]
theorem ahZ (n m:Nat):CB PP (cNd n m):=cW n m ⟨fo Try.func45,fo Try.func46,trivial⟩ ⟨IG,Nx,trivial⟩
noncomputable def ajz (n m:Nat):Ctx:=cT n m [] [] [] [] [] [39]
theorem agl (n m:Nat):CB PP (ajz n m):=cW n m trivial trivial
theorem W6:ma PP 39 NdS:=by
 refine rp (ahZ 1 0) (fo Try.func39) (λa y=>rfl) (λa=>⟨rfl,rfl⟩) (by show ([1,2,3]:List Nat).Nodup;decide) ?_
 rintro ⟨⟨ins,gs,outs,dr⟩,⟨L,C,F⟩,v,out⟩ hx
 obtain ⟨wR,jj,lx,JV,ON,aP,JB,X5,Kr,Gp⟩:CK ⟨ins,gs,outs,dr⟩ ⟨L,C,F⟩ v out:=hx
 have jj:L.length=v:=jj
 have lx:C.length=v:=lx
 have JV:F.length=v:=JV
 have ON:ins.length+gs.length<=1000000:=ON
 have aP:v < 2+ins.length+gs.length:=aP
 have JB:v < 2+ins.length->out=some ⟨L++[0],C++[[[(v:Int)]]],F++[[]]⟩:=JB
 have w1:IntKind.i64.wrap ((v:Int) - 2)=(v:Int) - 2:=eP (by omega) (by omega)
 have w2:IntKind.i64.wrap (IntKind.i64.wrap ((v:Int) - 2) - (ins.length:Int))=(v:Int) - 2 - ins.length:=by rw [w1];exact eP (by omega) (by omega)
 have q1:IntKind.i64.wrap (IntKind.i64.wrap ((v:Int) - 2) - (ins.length:Int)) < 0->v < 2+ins.length:=λh=>by rw [w2] at h;omega
 have q2:0<=IntKind.i64.wrap (IntKind.i64.wrap ((v:Int) - 2) - (ins.length:Int))->2+ins.length<=v:=λh=>by rw [w2] at h;omega
 have q3:2+ins.length<=v->(IntKind.i64.wrap (IntKind.i64.wrap ((v:Int) - 2) - (ins.length:Int))).toNat=v - 2 - ins.length:=λh=>by rw [w2];omega
 have b1:(L.length+1)*8<=140737488355328:=by omega
 have b2:L.length+1<=9223372036854775807:=by omega
 have b3:(C.length+1)*24<=140737488355328:=by omega
 have b4:C.length+1<=9223372036854775807:=by omega
 have b5:(F.length+1)*24<=140737488355328:=by omega
 have b6:F.length+1<=9223372036854775807:=by omega
 refine ⟨?_⟩
 cbv
 refine Sat.jN (agl 1 0) ?_
 cbv
 refine ⟨[[(v:Int)]],⟨by exact aY,rfl⟩,?_⟩
 cbv
 refine ⟨λh=>?_,λh=>?_⟩
 ·have gg:=q1 aJ
  have ho:=JB gg
  have o1:true=out.isSome:=by rw [ho];rfl
  have o2:L++[0]=(out.getD ⟨L,C,F⟩).labels:=by rw [ho];rfl
  have o3:C++[[[(v:Int)]]]=(out.getD ⟨L,C,F⟩).gv:=by rw [ho];rfl
  have o4:F++[[]]=(out.getD ⟨L,C,F⟩).leaves:=by rw [ho];rfl
  clear h
  cbv
  refine Sat.freeze 6 rfl rfl ?_
  refine Sat.jN (zU 1 0) ?_
  cbv
  refine ⟨[0],⟨by exact aY,b1,b2⟩,?_⟩
  cbv
  refine ⟨[[[(v:Int)]]],⟨by exact aY,b3,b4⟩,?_⟩
  cbv
  refine ⟨[[]],⟨by exact aY,b5,b6⟩,?_⟩
  cbv
  refine ⟨(),[],[(.c 0 4,1),(.c 0 5,2),(.c 0 6,3)],?_,by have eu:=o2;have pI:=o3;have vp:=o4;exact bp,⟨trivial⟩⟩
  cbv
  exact ⟨by have eW:=o1;exact wV,trivial⟩
 have jL:=q2 aJ
 have hq3:=q3 jL
 refine (cy (l:=gs) (i:=v - 2 - ins.length) (by omega)).elim λg hg=>?_
 have bV:out=uL ⟨L,C,F⟩ g:=X5 g jL hg
 have Z7:0<=IntKind.i64.wrap (IntKind.i64.wrap ((v:Int) - 2) - (ins.length:Int)):=aJ
 have Z8:gs[(IntKind.i64.wrap (IntKind.i64.wrap ((v:Int) - 2) - (ins.length:Int))).toNat]?=some g:=by rw [hq3];exact hg
 have Kr:g.op=7->kN L (cR g):=Kr g jL hg
 have Gp:g.op≠7->FH C (cR g) (n9 C (cR g))/\(n9 C (cR g)).length<=100000000/\∀y∈n9 C (cR g),kN L y:=Gp g jL hg
 unfold uL at bV
 simp only [jj] at bV
 obtain ⟨O,hO⟩:∃O,cR g=O:=⟨_,rfl⟩
 obtain ⟨M,hM⟩:∃M,n9 C O=M:=⟨_,rfl⟩
 rw [hO] at Kr Gp bV
 rw [hM] at Gp bV
 clear h X5 q1 q2 q3 JB
 cbv
 refine ⟨g,⟨Z7,Z8⟩,?_⟩
 cbv
 refine ⟨g,⟨by exact aY,trivial⟩,?_⟩
 cbv
 refine ⟨g,⟨Z7,Z8⟩,?_⟩
 cbv
 refine ⟨λh=>?_,λh=>?_⟩
 rotate_left
 ·have h7:g.op=7:=aJ
  have fR:=Kr h7
  have hle:=fR.le
  rw [if_pos h7] at bV
  have w5:IntKind.i64.wrap (1+cd L O)=1+cd L O:=eP (by omega) (by omega)
  obtain ⟨X,hX⟩:∃X,1+cd L O=X:=⟨_,rfl⟩
  have w5:=w5.trans hX
  rw [hX] at bV
  have o1:true=out.isSome:=by rw [bV];rfl
  have o2:L++[X]=(out.getD ⟨L,C,F⟩).labels:=by rw [bV];rfl
  have o3:C++[[[(v:Int)]]]=(out.getD ⟨L,C,F⟩).gv:=by rw [bV];rfl
  have o4:F++[O]=(out.getD ⟨L,C,F⟩).leaves:=by rw [bV];rfl
  clear h
  cbv
  refine Sat.freeze 6 rfl rfl ?_
  refine Sat.jN (zU 1 0) ?_
  cbv
  refine ⟨⟨⟨ins,gs,outs,dr⟩,⟨L,C,F⟩,O⟩,⟨.inl ⟨by have gM:=hO;exact bN,rfl⟩,fR⟩,?_⟩
  cbv
  refine ⟨[X],⟨by have bI:=w5;exact bN,b1,b2⟩,?_⟩
  cbv
  refine ⟨[[[(v:Int)]]],⟨by exact aY,b3,b4⟩,?_⟩
  cbv
  refine ⟨[O],⟨by have gM:=hO;exact bN,b5,b6⟩,?_⟩
  cbv
  refine ⟨(),[],[(.c 0 4,1),(.c 0 5,2),(.c 0 6,3)],?_,by have eu:=o2;have pI:=o3;have vp:=o4;exact bp,⟨trivial⟩⟩
  cbv
  exact ⟨by have eW:=o1;exact wV,trivial⟩
 have h7:g.op≠7:=aJ
 obtain ⟨Z9,hMl,hMy⟩:=Gp h7
 have bL:=Z9.ne
 rw [if_neg h7] at bV
 rcases M with _|⟨x,r⟩
 ·cases (show False by simp at bL)
 have ajA:FH C O (x :: r):=Z9
 clear h
 cbv
 refine iP.io ahX ⟨⟨ins,gs,outs,dr⟩,⟨L,C,F⟩,O,x :: r⟩ [0,1,2,3,99] rfl (by have gM:=hO;exact bN) (by exact aX) ⟨ajA⟩ λ_ _=>?_
 obtain ⟨b,hb⟩:∃b,iQ (cd L) x r=b:=⟨_,rfl⟩
 have dU:r.length<=100000000/\(∀y∈x :: r,kN L y)/\iQ (cd L) x r=b:=⟨by rw [oN] at hMl;omega,hMy,hb⟩
 have pJ:b∈x :: r:=hb ▸ Ek
 have fR:=hMy b pJ
 have hle:=fR.le
 have w5:IntKind.i64.wrap (1+cd L b)=1+cd L b:=eP (by omega) (by omega)
 obtain ⟨X,hX⟩:∃X,1+cd L b=X:=⟨_,rfl⟩
 have w5:=w5.trans hX
 simp only [hb,hX] at bV
 have hz:(0:Int)<=0/\(x :: r)[(0:Int).toNat]?=some x:=⟨n7 _,rfl⟩
 have c1:(((x :: r).length:Nat)+1)*24<=140737488355328:=by omega
 cbv
 refine iP.ue afe (λa y=>λz=>(dv z).1) ⟨⟨ins,gs,outs,dr⟩,⟨L,C,F⟩,x,r,b⟩ [4,0,1,2,3,7] rfl (by exact aY) (by exact aX) ⟨dU⟩ λ_ _=>?_
 cbv
 refine Sat.freeze 7 rfl rfl ?_
 refine Sat.jN (zU 1 0) ?_
 cbv
 refine ⟨x,⟨hz⟩,?_⟩
 cbv
 refine ⟨λh=>?_,λh=>?_⟩
 ·have j5:(x.length:Int)=0:=aJ
  have j5:x.length=0:=by omega
  simp only [EU,j5,if_true] at bV
  clear h
  cbv
  refine Sat.jN (zU 1 0) ?_
  cbv
  refine ⟨λh=>?_,λh=>?_⟩
  ·have pD:(400:Int) < ((x :: r).length:Nat):=aJ
   have pD:400 < (x :: r).length:=by omega
   rw [if_pos pD] at bV
   have o1:false=out.isSome:=by rw [bV];rfl
   have o2:L=(out.getD ⟨L,C,F⟩).labels:=by rw [bV];rfl
   have o3:C=(out.getD ⟨L,C,F⟩).gv:=by rw [bV];rfl
   have o4:F=(out.getD ⟨L,C,F⟩).leaves:=by rw [bV];rfl
   cbv
   refine ⟨(),[],[(.c 0 4,1),(.c 0 5,2),(.c 0 6,3)],?_,by have eu:=o2;have pI:=o3;have vp:=o4;exact bp,⟨trivial⟩⟩
   cbv
   exact ⟨by have eW:=o1;exact wV,trivial⟩
  ·have pD:((x :: r).length:Nat)<=(400:Int):=aJ
   have pD:¬400 < (x :: r).length:=by omega
   rw [if_neg pD] at bV
   have o1:true=out.isSome:=by rw [bV];rfl
   have o2:L++[X]=(out.getD ⟨L,C,F⟩).labels:=by rw [bV];rfl
   have o3:C++[x :: r]=(out.getD ⟨L,C,F⟩).gv:=by rw [bV];rfl
   have o4:F++[b]=(out.getD ⟨L,C,F⟩).leaves:=by rw [bV];rfl
   clear h
   cbv
   refine Sat.jN (zU 1 0) ?_
   cbv
   refine ⟨⟨⟨ins,gs,outs,dr⟩,⟨L,C,F⟩,b⟩,⟨.inl ⟨by exact aY,rfl⟩,fR⟩,?_⟩
   cbv
   refine ⟨[X],⟨by have bI:=w5;exact bN,b1,b2⟩,?_⟩
   cbv
   refine ⟨[x :: r],⟨by exact aY,b3,b4⟩,?_⟩
   cbv
   refine ⟨[b],⟨by exact aY,b5,b6⟩,?_⟩
   cbv
   refine ⟨(),[],[(.c 0 4,1),(.c 0 5,2),(.c 0 6,3)],?_,by have eu:=o2;have pI:=o3;have vp:=o4;exact bp,⟨trivial⟩⟩
   cbv
   exact ⟨by have eW:=o1;exact wV,trivial⟩
 ·have j5:¬(x.length:Int)=0:=aJ
  have j5:¬x.length=0:=by omega
  simp only [EU,j5,if_false] at bV
  have c1:(([[(v:Int)]]:List (List Int)).length+(x :: r).length)*24<=140737488355328:=by rw [zt];omega
  have c2:([[(v:Int)]]:List (List Int)).length+(x :: r).length<=9223372036854775807:=by rw [zt];omega
  clear h
  cbv
  refine ⟨x :: r,⟨by exact aY,c1,c2⟩,?_⟩
  cbv
  refine Sat.freeze 8 rfl rfl ?_
  refine Sat.jN (zU 1 0) ?_
  cbv
  refine ⟨λh=>?_,λh=>?_⟩
  ·have pD:400 < ([[(v:Int)]]++(x :: r)).length:=aJ
   have pD:400 < ([(v:Int)] :: x :: r).length:=pD
   rw [if_pos pD] at bV
   have o1:false=out.isSome:=by rw [bV];rfl
   have o2:L=(out.getD ⟨L,C,F⟩).labels:=by rw [bV];rfl
   have o3:C=(out.getD ⟨L,C,F⟩).gv:=by rw [bV];rfl
   have o4:F=(out.getD ⟨L,C,F⟩).leaves:=by rw [bV];rfl
   cbv
   refine ⟨(),[],[(.c 0 4,1),(.c 0 5,2),(.c 0 6,3)],?_,by have eu:=o2;have pI:=o3;have vp:=o4;exact bp,⟨trivial⟩⟩
   cbv
   exact ⟨by have eW:=o1;exact wV,trivial⟩
  ·have pD:([[(v:Int)]]++(x :: r)).length<=400:=aJ
   have pD:¬400 < ([(v:Int)] :: x :: r).length:=Nat.not_lt.2 pD
   rw [if_neg pD] at bV
   have o1:true=out.isSome:=by rw [bV];rfl
   have o2:L++[X]=(out.getD ⟨L,C,F⟩).labels:=by rw [bV];rfl
   have o3:C++[[(v:Int)] :: x :: r]=(out.getD ⟨L,C,F⟩).gv:=by rw [bV];rfl
   have o4:F++[b]=(out.getD ⟨L,C,F⟩).leaves:=by rw [bV];rfl
   clear h
   cbv
   refine Sat.jN (zU 1 0) ?_
   cbv
   refine ⟨⟨⟨ins,gs,outs,dr⟩,⟨L,C,F⟩,b⟩,⟨.inl ⟨by exact aY,rfl⟩,fR⟩,?_⟩
   cbv
   refine ⟨[X],⟨by have bI:=w5;exact bN,b1,b2⟩,?_⟩
   cbv
   refine ⟨[[(v:Int)] :: x :: r],⟨by exact aY,b3,b4⟩,?_⟩
   cbv
   refine ⟨[b],⟨by exact aY,b5,b6⟩,?_⟩
   cbv
   refine ⟨(),[],[(.c 0 4,1),(.c 0 5,2),(.c 0 6,3)],?_,by have eu:=o2;have pI:=o3;have vp:=o4;exact bp,⟨trivial⟩⟩
   cbv
   exact ⟨by have eW:=o1;exact wV,trivial⟩
end Go.Proofs.Pk
