import Derived.Test.YthnhbemmlfaihaaC13
import Derived.Test.YthnhbemmlfaihaaC22
set_option linter.unusedVariables false
set_option linter.unusedSimpArgs false
set_option maxRecDepth 10000
set_option maxHeartbeats 64000000
namespace Go.Proofs.Pk
open Go Go.Vc
structure aiS where
 n:Net
 s:dJ
 v:Nat
 out:Option dJ
structure Cc (n:Net) (s:dJ) (v:Nat) (out:Option dJ):Prop where
 v2:2<=v
 l1:s.labels.length=v
 l2:s.e6.length=v
 l3:s.leaves.length=v
 oR:n.ins.length+n.bU.length<=1000000
 lt:v < 2+n.ins.length+n.bU.length
 inp:v < 2+n.ins.length->out=some ⟨s.labels++[0],s.e6++[[[(v:Int)]]],s.leaves++[[]]⟩
 gat:∀g,2+n.ins.length<=v->n.bU[v - 2 - n.ins.length]?=some g->out=rN s g
 rd:∀g,2+n.ins.length<=v->n.bU[v - 2 - n.ins.length]?=some g->g.op=7->kD s.labels (cI g)
 mg:∀g,2+n.ins.length<=v->n.bU[v - 2 - n.ins.length]?=some g->g.op≠7->EZ s.e6 (cI g) (nO s.e6 (cI g))/\(nO s.e6 (cI g)).length<=100000000/\∀y∈nO s.e6 (cI g),kD s.labels y
@[reducible] noncomputable def NdS:nU where
 α:=aiS
 args x:=[.ptr 0 0,.i .i64 (λ_=>(x.v:Int))]
 io x:=B9 x.n x.s 0
 pre x:=Cc x.n x.s x.v x.out
 β:=Unit
 post _ _:=True
 mv:=[1,2,3]
 res x _:=.b (λ_=>x.out.isSome)
 kZ x _:=B9 x.n (x.out.getD x.s) 0
noncomputable def aiT (n m:Nat):Ctx:=cP n m [(45,Try.f45),(46,Try.f46)] [(48,EW),(35,I4)] [45,46]
theorem zq (n m:Nat):CB PP (aiT n m):=cR n m ⟨fo Try.func45,fo Try.func46,trivial⟩ ⟨HY,MX,trivial⟩
noncomputable def cNd (n m:Nat):Ctx:=cP n m [(45,Try.f45),(46,Try.f46)] [(48,EW),(35,I4)] [45,46] [] [1,4,10,13,15]
theorem ahm (n m:Nat):CB PP (cNd n m):=cR n m ⟨fo Try.func45,fo Try.func46,trivial⟩ ⟨HY,MX,trivial⟩
noncomputable def aiU (n m:Nat):Ctx:=cP n m [] [] [] [] [] [39]
theorem afM (n m:Nat):CB PP (aiU n m):=cR n m trivial trivial
theorem Wt:lW PP 39 NdS:=by
 refine qV (ahm 1 0) (fo Try.func39) (λa y=>rfl) (λa=>⟨rfl,rfl⟩) (by show ([1,2,3]:List Nat).Nodup;decide) ?_
 rintro ⟨⟨ins,gs,outs,dr⟩,⟨L,C,F⟩,v,out⟩ hx
 obtain ⟨wx,jc,kW,Jo,Oe,aQ,I7,Xt,JS,FL⟩:Cc ⟨ins,gs,outs,dr⟩ ⟨L,C,F⟩ v out:=hx
 have jc:L.length=v:=jc
 have kW:C.length=v:=kW
 have Jo:F.length=v:=Jo
 have Oe:ins.length+gs.length<=1000000:=Oe
 have aQ:v < 2+ins.length+gs.length:=aQ
 have I7:v < 2+ins.length->out=some ⟨L++[0],C++[[[(v:Int)]]],F++[[]]⟩:=I7
 have w1:IntKind.i64.wrap ((v:Int) - 2)=(v:Int) - 2:=ei (by omega) (by omega)
 have w2:IntKind.i64.wrap (IntKind.i64.wrap ((v:Int) - 2) - (ins.length:Int))=(v:Int) - 2 - ins.length:=by rw [w1];exact ei (by omega) (by omega)
 have q1:IntKind.i64.wrap (IntKind.i64.wrap ((v:Int) - 2) - (ins.length:Int)) < 0->v < 2+ins.length:=λh=>by rw [w2] at h;omega
 have q2:0<=IntKind.i64.wrap (IntKind.i64.wrap ((v:Int) - 2) - (ins.length:Int))->2+ins.length<=v:=λh=>by rw [w2] at h;omega
 have q3:2+ins.length<=v->(IntKind.i64.wrap (IntKind.i64.wrap ((v:Int) - 2) - (ins.length:Int))).toNat=v - 2 - ins.length:=λh=>by rw [w2];omega
 have b1:(L.length+1)*8<=140737488355328:=by omega
 have b2:L.length+1<=9223372036854775807:=by omega
 have b3:(C.length+1)*24<=140737488355328:=by omega
 have b4:C.length+1<=9223372036854775807:=by omega
 have b5:(F.length+1)*24<=140737488355328:=by omega
 have b6:F.length+1<=9223372036854775807:=by omega
 refine ⟨?_⟩
 cbv
 refine Sat.iR (afM 1 0) ?_
 cbv
 refine ⟨[[(v:Int)]],⟨by exact a7,rfl⟩,?_⟩
 cbv
 refine ⟨λh=>?_,λh=>?_⟩
 ·have gS:=q1 aL
  have ho:=I7 gS
  have o1:true=out.isSome:=by rw [ho];rfl
  have o2:L++[0]=(out.getD ⟨L,C,F⟩).labels:=by rw [ho];rfl
  have o3:C++[[[(v:Int)]]]=(out.getD ⟨L,C,F⟩).e6:=by rw [ho];rfl
  have o4:F++[[]]=(out.getD ⟨L,C,F⟩).leaves:=by rw [ho];rfl
  clear h
  cbv
  refine Sat.freeze 6 rfl rfl ?_
  refine Sat.iR (zq 1 0) ?_
  cbv
  refine ⟨[0],⟨by exact a7,b1,b2⟩,?_⟩
  cbv
  refine ⟨[[[(v:Int)]]],⟨by exact a7,b3,b4⟩,?_⟩
  cbv
  refine ⟨[[]],⟨by exact a7,b5,b6⟩,?_⟩
  cbv
  refine ⟨(),[],[(.c 0 4,1),(.c 0 5,2),(.c 0 6,3)],?_,by have eG:=o2;have pv:=o3;have uW:=o4;exact a8,⟨trivial⟩⟩
  cbv
  exact ⟨by have eR:=o1;exact wA,trivial⟩
 have jE:=q2 aL
 have hq3:=q3 jE
 refine (cC (l:=gs) (i:=v - 2 - ins.length) (by omega)).elim λg hg=>?_
 have cX:out=rN ⟨L,C,F⟩ g:=Xt g jE hg
 have Zv:0<=IntKind.i64.wrap (IntKind.i64.wrap ((v:Int) - 2) - (ins.length:Int)):=aL
 have Zw:gs[(IntKind.i64.wrap (IntKind.i64.wrap ((v:Int) - 2) - (ins.length:Int))).toNat]?=some g:=by rw [hq3];exact hg
 have JS:g.op=7->kD L (cI g):=JS g jE hg
 have FL:g.op≠7->EZ C (cI g) (nO C (cI g))/\(nO C (cI g)).length<=100000000/\∀y∈nO C (cI g),kD L y:=FL g jE hg
 unfold rN at cX
 simp only [jc] at cX
 obtain ⟨O,hO⟩:∃O,cI g=O:=⟨_,rfl⟩
 obtain ⟨M,hM⟩:∃M,nO C O=M:=⟨_,rfl⟩
 rw [hO] at JS FL cX
 rw [hM] at FL cX
 clear h Xt q1 q2 q3 I7
 cbv
 refine ⟨g,⟨Zv,Zw⟩,?_⟩
 cbv
 refine ⟨g,⟨by exact a7,trivial⟩,?_⟩
 cbv
 refine ⟨g,⟨Zv,Zw⟩,?_⟩
 cbv
 refine ⟨λh=>?_,λh=>?_⟩
 rotate_left
 ·have h7:g.op=7:=aL
  have fN:=JS h7
  have hle:=fN.le
  rw [if_pos h7] at cX
  have w5:IntKind.i64.wrap (1+bY L O)=1+bY L O:=ei (by omega) (by omega)
  obtain ⟨X,hX⟩:∃X,1+bY L O=X:=⟨_,rfl⟩
  have w5:=w5.trans hX
  rw [hX] at cX
  have o1:true=out.isSome:=by rw [cX];rfl
  have o2:L++[X]=(out.getD ⟨L,C,F⟩).labels:=by rw [cX];rfl
  have o3:C++[[[(v:Int)]]]=(out.getD ⟨L,C,F⟩).e6:=by rw [cX];rfl
  have o4:F++[O]=(out.getD ⟨L,C,F⟩).leaves:=by rw [cX];rfl
  clear h
  cbv
  refine Sat.freeze 6 rfl rfl ?_
  refine Sat.iR (zq 1 0) ?_
  cbv
  refine ⟨⟨⟨ins,gs,outs,dr⟩,⟨L,C,F⟩,O⟩,⟨.inl ⟨by have iz:=hO;exact bJ,rfl⟩,fN⟩,?_⟩
  cbv
  refine ⟨[X],⟨by have bE:=w5;exact bJ,b1,b2⟩,?_⟩
  cbv
  refine ⟨[[[(v:Int)]]],⟨by exact a7,b3,b4⟩,?_⟩
  cbv
  refine ⟨[O],⟨by have iz:=hO;exact bJ,b5,b6⟩,?_⟩
  cbv
  refine ⟨(),[],[(.c 0 4,1),(.c 0 5,2),(.c 0 6,3)],?_,by have eG:=o2;have pv:=o3;have uW:=o4;exact a8,⟨trivial⟩⟩
  cbv
  exact ⟨by have eR:=o1;exact wA,trivial⟩
 have h7:g.op≠7:=aL
 obtain ⟨Zx,hMl,Zy⟩:=FL h7
 have bM:=Zx.ne
 rw [if_neg h7] at cX
 rcases M with _|⟨x,r⟩
 ·cases (show False by simp at bM)
 have aiV:EZ C O (x :: r):=Zx
 clear h
 cbv
 refine iW.io ahk ⟨⟨ins,gs,outs,dr⟩,⟨L,C,F⟩,O,x :: r⟩ [0,1,2,3,99] rfl (by have iz:=hO;exact bJ) (by exact aW) ⟨aiV⟩ λ_ _=>?_
 obtain ⟨b,hb⟩:∃b,iN (bY L) x r=b:=⟨_,rfl⟩
 have dL:r.length<=100000000/\(∀y∈x :: r,kD L y)/\iN (bY L) x r=b:=⟨by rw [oy] at hMl;omega,Zy,hb⟩
 have px:b∈x :: r:=hb ▸ DE
 have fN:=Zy b px
 have hle:=fN.le
 have w5:IntKind.i64.wrap (1+bY L b)=1+bY L b:=ei (by omega) (by omega)
 obtain ⟨X,hX⟩:∃X,1+bY L b=X:=⟨_,rfl⟩
 have w5:=w5.trans hX
 simp only [hb,hX] at cX
 have hz:(0:Int)<=0/\(x :: r)[(0:Int).toNat]?=some x:=⟨nL _,rfl⟩
 have c1:(((x :: r).length:Nat)+1)*24<=140737488355328:=by omega
 cbv
 refine iW.tM aeF (λa y=>λz=>(dq z).1) ⟨⟨ins,gs,outs,dr⟩,⟨L,C,F⟩,x,r,b⟩ [4,0,1,2,3,7] rfl (by exact a7) (by exact aW) ⟨dL⟩ λ_ _=>?_
 cbv
 refine Sat.freeze 7 rfl rfl ?_
 refine Sat.iR (zq 1 0) ?_
 cbv
 refine ⟨x,⟨hz⟩,?_⟩
 cbv
 refine ⟨λh=>?_,λh=>?_⟩
 ·have jW:(x.length:Int)=0:=aL
  have jW:x.length=0:=by omega
  simp only [Eh,jW,if_true] at cX
  clear h
  cbv
  refine Sat.iR (zq 1 0) ?_
  cbv
  refine ⟨λh=>?_,λh=>?_⟩
  ·have pj:(400:Int) < ((x :: r).length:Nat):=aL
   have pj:400 < (x :: r).length:=by omega
   rw [if_pos pj] at cX
   have o1:false=out.isSome:=by rw [cX];rfl
   have o2:L=(out.getD ⟨L,C,F⟩).labels:=by rw [cX];rfl
   have o3:C=(out.getD ⟨L,C,F⟩).e6:=by rw [cX];rfl
   have o4:F=(out.getD ⟨L,C,F⟩).leaves:=by rw [cX];rfl
   cbv
   refine ⟨(),[],[(.c 0 4,1),(.c 0 5,2),(.c 0 6,3)],?_,by have eG:=o2;have pv:=o3;have uW:=o4;exact a8,⟨trivial⟩⟩
   cbv
   exact ⟨by have eR:=o1;exact wA,trivial⟩
  ·have pj:((x :: r).length:Nat)<=(400:Int):=aL
   have pj:¬400 < (x :: r).length:=by omega
   rw [if_neg pj] at cX
   have o1:true=out.isSome:=by rw [cX];rfl
   have o2:L++[X]=(out.getD ⟨L,C,F⟩).labels:=by rw [cX];rfl
   have o3:C++[x :: r]=(out.getD ⟨L,C,F⟩).e6:=by rw [cX];rfl
   have o4:F++[b]=(out.getD ⟨L,C,F⟩).leaves:=by rw [cX];rfl
   clear h
   cbv
   refine Sat.iR (zq 1 0) ?_
   cbv
   refine ⟨⟨⟨ins,gs,outs,dr⟩,⟨L,C,F⟩,b⟩,⟨.inl ⟨by exact a7,rfl⟩,fN⟩,?_⟩
   cbv
   refine ⟨[X],⟨by have bE:=w5;exact bJ,b1,b2⟩,?_⟩
   cbv
   refine ⟨[x :: r],⟨by exact a7,b3,b4⟩,?_⟩
   cbv
   refine ⟨[b],⟨by exact a7,b5,b6⟩,?_⟩
   cbv
   refine ⟨(),[],[(.c 0 4,1),(.c 0 5,2),(.c 0 6,3)],?_,by have eG:=o2;have pv:=o3;have uW:=o4;exact a8,⟨trivial⟩⟩
   cbv
   exact ⟨by have eR:=o1;exact wA,trivial⟩
 ·have jW:¬(x.length:Int)=0:=aL
  have jW:¬x.length=0:=by omega
  simp only [Eh,jW,if_false] at cX
  have c1:(([[(v:Int)]]:List (List Int)).length+(x :: r).length)*24<=140737488355328:=by rw [yY];omega
  have c2:([[(v:Int)]]:List (List Int)).length+(x :: r).length<=9223372036854775807:=by rw [yY];omega
  clear h
  cbv
  refine ⟨x :: r,⟨by exact a7,c1,c2⟩,?_⟩
  cbv
  refine Sat.freeze 8 rfl rfl ?_
  refine Sat.iR (zq 1 0) ?_
  cbv
  refine ⟨λh=>?_,λh=>?_⟩
  ·have pj:400 < ([[(v:Int)]]++(x :: r)).length:=aL
   have pj:400 < ([(v:Int)] :: x :: r).length:=pj
   rw [if_pos pj] at cX
   have o1:false=out.isSome:=by rw [cX];rfl
   have o2:L=(out.getD ⟨L,C,F⟩).labels:=by rw [cX];rfl
   have o3:C=(out.getD ⟨L,C,F⟩).e6:=by rw [cX];rfl
   have o4:F=(out.getD ⟨L,C,F⟩).leaves:=by rw [cX];rfl
   cbv
   refine ⟨(),[],[(.c 0 4,1),(.c 0 5,2),(.c 0 6,3)],?_,by have eG:=o2;have pv:=o3;have uW:=o4;exact a8,⟨trivial⟩⟩
   cbv
   exact ⟨by have eR:=o1;exact wA,trivial⟩
  ·have pj:([[(v:Int)]]++(x :: r)).length<=400:=aL
   have pj:¬400 < ([(v:Int)] :: x :: r).length:=Nat.not_lt.2 pj
   rw [if_neg pj] at cX
   have o1:true=out.isSome:=by rw [cX];rfl
   have o2:L++[X]=(out.getD ⟨L,C,F⟩).labels:=by rw [cX];rfl
   have o3:C++[[(v:Int)] :: x :: r]=(out.getD ⟨L,C,F⟩).e6:=by rw [cX];rfl
   have o4:F++[b]=(out.getD ⟨L,C,F⟩).leaves:=by rw [cX];rfl
   clear h
   cbv
   refine Sat.iR (zq 1 0) ?_
   cbv
   refine ⟨⟨⟨ins,gs,outs,dr⟩,⟨L,C,F⟩,b⟩,⟨.inl ⟨by exact a7,rfl⟩,fN⟩,?_⟩
   cbv
   refine ⟨[X],⟨by have bE:=w5;exact bJ,b1,b2⟩,?_⟩
   cbv
   refine ⟨[[(v:Int)] :: x :: r],⟨by exact a7,b3,b4⟩,?_⟩
   cbv
   refine ⟨[b],⟨by exact a7,b5,b6⟩,?_⟩
   cbv
   refine ⟨(),[],[(.c 0 4,1),(.c 0 5,2),(.c 0 6,3)],?_,by have eG:=o2;have pv:=o3;have uW:=o4;exact a8,⟨trivial⟩⟩
   cbv
   exact ⟨by have eR:=o1;exact wA,trivial⟩
end Go.Proofs.Pk
