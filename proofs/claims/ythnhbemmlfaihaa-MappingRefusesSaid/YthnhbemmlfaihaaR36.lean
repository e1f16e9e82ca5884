import Derived.Test.YthnhbemmlfaihaaR13
import Derived.Test.YthnhbemmlfaihaaR35
set_option linter.unusedVariables false
set_option linter.unusedSimpArgs false
set_option maxRecDepth 10000
set_option maxHeartbeats 64000000
namespace Go.Proofs.Pk
open Go Go.Vc
structure YD where
 x:JM
 k:KJ
 d:Int
structure YE (z:YD):Prop where
 x:Ff z.x
 k:byte z.k.a/\byte z.k.b/\byte z.k.c
@[reducible] noncomputable def akT:Vc.Spec where
 α:=YD
 args z:=[.agg [.sl 1 sR (λ_=>z.x.w),.sl 5 vq (λ_=>z.x.g),.sl 4 vr (λ_=>z.x.o)],.agg (Pc z.k),.i .i64 (λ_=>z.d)]
 pre z:=YE z
 res z:=.b (λ_=>true)
theorem aeD {n:Net} {m:dM} {R:List Int} {V:List (List Int)} (O:Ym n m ⟨R,V⟩) {R':List Int} (h:R'.length≠m.cells.length):tP n m ⟨R',V⟩ 260 :=
 ⟨O.ck.G,O.ck.dr,O.ck.cells,O.ck.cin,O.ck.lvs,by rw [abe (c:=⟨R',V⟩) h];rfl⟩
theorem ag5 {n:Net} {m:dM} {c:jn} {y:pc} (h:wC n m c 0) (hy:uP ⟨m,c,0⟩ y) (bL:y≠⟨m,c,0⟩):tP n y.m y.c 260 :=
 ⟨(CM h).ck.G,(CM h).ck.dr,hy.gy.m.cells,hy.gy.m.cin,hy.gy.l.2,by rw [ab2 h hy bL];rfl⟩
theorem aiq {a b:pc} (ha:we a) (hb:we b):∃r,FM a b r/\(r=false->a≠b):=by
 by_cases h:a=b
 ·exact ⟨true,⟨ha,hb,by simp [h]⟩,by simp⟩
 ·exact ⟨false,⟨ha,hb,by simp [h]⟩,λ_=>h⟩
noncomputable def cRf (n m:Nat):Ctx:=cT n m [(6,Try.f6),(8,Try.f8),(7,Try.f7),(10,Try.f10)] [(5,Yy),(19,O3),(11,OZ),(9,OR)] [7,10]
theorem air (n m:Nat):CB PP (cRf n m):=cW n m ⟨fo Try.func6,fo Try.func8,fo Try.func7,fo Try.func10,trivial⟩ ⟨agZ,Wm,Wj,Wk,trivial⟩
theorem ag6:dw (PP ()) 3 akT:=by
 refine fH (air 0 0) (fo Try.func3) (λa=>⟨⟨λx=>(ID x).1,λx=>(IE x).1,λx=>(IF x).1,trivial⟩,Vv _,trivial,trivial⟩) (λa=>trivial) ?_
 rintro ⟨⟨w,g,o⟩,⟨ka,kb,kc⟩,d⟩ hx
 obtain ⟨hx,lS⟩:YE ⟨⟨w,g,o⟩,⟨ka,kb,kc⟩,d⟩:=hx
 have hx:Ff ⟨w,g,o⟩:=hx
 refine ⟨?_⟩
 cbv
 refine ⟨(),⟨by exact aY,trivial⟩,?_⟩
 cbv
 refine ⟨λh=>?_,λh=>?_⟩
 ·have h:=h.out
  cases (show False by simp at h)
 clear h
 cbv
 refine ⟨λh=>?_,λh=>?_⟩
 rotate_left
 ·clear h
  cbv
  exact ⟨by exact aY⟩
 clear h
 cbv
 refine ⟨λh=>?_,λh=>?_⟩
 rotate_left
 ·clear h
  cbv
  exact ⟨by exact aY⟩
 clear h
 cbv
 refine ⟨λh=>?_,λh=>?_⟩
 ·clear h
  cbv
  exact ⟨by exact aY⟩
 clear h
 cbv
 refine ⟨λh=>?_,λh=>?_⟩
 ·clear h
  cbv
  exact ⟨by exact aY⟩
 clear h
 cbv
 refine iP.rel ag0 ⟨w,g,o⟩ (by exact fj) ⟨hx⟩ λn=>?_
 refine n.casesOn λins gs outs dr hn=>?_
 have hn:KG ⟨ins,gs,outs,dr⟩:=hn.out
 have hd:dr.length<=1000000:=by have:=hn.d;show dr.length<=_;simp only at this;omega
 refine (⟨_,_,_,rfl⟩:∃m c e,mapM ins.length gs dr=(m,c,e)).elim λm hm=>?_
 refine hm.elim λc hm=>?_
 refine hm.elim λe hm=>?_
 have hm:wC ⟨ins,gs,outs,dr⟩ m c e:=⟨hn.G,hn.dr,hd,hm⟩
 rcases agK hm with he|he
 rotate_left
 ·obtain ⟨rfl,rfl,rfl⟩:=he
  cbv
  refine ⟨⟨⟨ins,gs,outs,dr⟩,⟨0,[],[]⟩,⟨[],[]⟩,2⟩,⟨by exact aY,hm⟩,?_⟩
  cbv
  refine ⟨λh=>?_,λh=>?_⟩
  rotate_left
  ·have h':(2:Int)=0:=aJ
   cases (show False by omega)
  clear h
  cbv
  refine ⟨λh=>?_,λh=>?_⟩
  rotate_left
  ·have h':¬(2:Int)=2:=aJ
   cases (show False from h' rfl)
  clear h
  cbv
  exact ⟨by exact aY⟩
 subst he
 have O:=CM hm
 revert hm O
 refine m.casesOn λmn mc md=>?_
 refine c.casesOn λR V=>?_
 intro hm O
 have Dq:R.length=mc.length:=O.ok.rl
 have kC:V.length=mc.length:=O.ok.ll
 have AR:tP ⟨ins,gs,outs,dr⟩ ⟨mn,mc,md⟩ ⟨R,V⟩ 0:=O.ck
 have Jz:we ⟨⟨mn,mc,md⟩,⟨R,V⟩,0⟩:=O.gy
 have wT:Oa ⟨⟨⟨mn,mc,md⟩,⟨R,V⟩,0⟩,⟨ka,kb,kc⟩,d⟩:=⟨Jz,Dq,kC,lS⟩
 have akU:∀y:pc,uP ⟨⟨mn,mc,md⟩,⟨R,V⟩,0⟩ y->y≠⟨⟨mn,mc,md⟩,⟨R,V⟩,0⟩->tP ⟨ins,gs,outs,dr⟩ y.m y.c 260:=λy=>ag5 hm
 have ag7:∀R':List Int,R'.length≠mc.length->tP ⟨ins,gs,outs,dr⟩ ⟨mn,mc,md⟩ ⟨R',V⟩ 260:=λR' h=>aeD O h
 cbv
 refine ⟨⟨⟨ins,gs,outs,dr⟩,⟨mn,mc,md⟩,⟨R,V⟩,0⟩,⟨by exact aY,hm⟩,?_⟩
 cbv
 refine ⟨λh=>?_,λh=>?_⟩
 ·have h':¬(0:Int)=0:=aJ
  cases (show False from h' rfl)
 clear h
 cbv
 refine ⟨⟨⟨ins,gs,outs,dr⟩,⟨mn,mc,md⟩,⟨R,V⟩,0⟩,⟨by exact aY,AR⟩,?_⟩
 cbv
 refine ⟨λh=>?_,λh=>?_⟩
 ·have h':¬(0:Int)=0:=aJ
  cases (show False from h' rfl)
 clear h
 cbv
 refine ⟨λh=>?_,λh=>?_⟩
 ·have h':¬(R.length:Int)=mc.length:=aJ
  cases (show False by omega)
 clear h
 cbv
 refine ⟨λh=>?_,λh=>?_⟩
 ·have h':¬(V.length:Int)=mc.length:=aJ
  cases (show False by omega)
 clear h
 cbv
 refine iP.rel ag3 ⟨⟨⟨mn,mc,md⟩,⟨R,V⟩,0⟩,⟨ka,kb,kc⟩,d⟩ (by exact fj) ⟨wT⟩ λy=>?_
 refine y.casesOn λym yc ye=>?_
 refine ym.casesOn λyn yk yd=>?_
 refine yc.casesOn λyr yl hy=>?_
 have hy:uP ⟨⟨mn,mc,md⟩,⟨R,V⟩,0⟩ ⟨⟨yn,yk,yd⟩,⟨yr,yl⟩,ye⟩:=hy.out
 have nF:=aiq hy.gy Jz
 refine nF.elim λr hr=>?_
 have vv:FM ⟨⟨yn,yk,yd⟩,⟨yr,yl⟩,ye⟩ ⟨⟨mn,mc,md⟩,⟨R,V⟩,0⟩ r:=hr.1
 have J0:=hr.2
 cbv
 refine ⟨⟨⟨⟨yn,yk,yd⟩,⟨yr,yl⟩,ye⟩,⟨⟨mn,mc,md⟩,⟨R,V⟩,0⟩,r⟩,⟨by exact aY,vv⟩,?_⟩
 cbv
 refine ⟨λh=>?_,λh=>?_⟩
 ·clear h
  cbv
  exact ⟨by exact aY⟩
 have bL:=J0 (by have:=h.out;simpa using this)
 have uc:tP ⟨ins,gs,outs,dr⟩ ⟨yn,yk,yd⟩ ⟨yr,yl⟩ 260:=akU _ hy bL
 clear h
 cbv
 refine ⟨λh=>?_,λh=>?_⟩
 ·have kL:0 < R.length:=aJ
  refine (⟨_,rfl⟩:∃R',(R.take R.length).drop 1=R').elim λR' mS=>?_
  have fV:0<=(1:Int)/\(1:Int)<=(R.length:Int)/\(R.length:Int)<=R.length:=by omega
  have vf:=ag7 R' (by rw [<-mS,L5,vR];omega)
  clear h
  cbv
  refine ⟨⟨fV⟩,?_⟩
  cbv
  refine ⟨⟨⟨ins,gs,outs,dr⟩,⟨mn,mc,md⟩,⟨R',V⟩,260⟩,⟨by have gM:=mS;exact bN,vf⟩,?_⟩
  cbv
  refine ⟨λh=>?_,λh=>?_⟩
  ·have h':¬(260:Int)=260:=aJ
   cases (show False from h' rfl)
  clear h
  cbv
  refine ⟨⟨⟨ins,gs,outs,dr⟩,⟨yn,yk,yd⟩,⟨yr,yl⟩,260⟩,⟨by exact aY,uc⟩,?_⟩
  cbv
  refine ⟨λh=>?_,λh=>?_⟩
  rotate_left
  ·have h':¬(260:Int)=260:=aJ
   cases (show False from h' rfl)
  clear h
  cbv
  exact ⟨by exact aY⟩
 ·clear h
  cbv
  refine ⟨⟨⟨ins,gs,outs,dr⟩,⟨yn,yk,yd⟩,⟨yr,yl⟩,260⟩,⟨by exact aY,uc⟩,?_⟩
  cbv
  refine ⟨λh=>?_,λh=>?_⟩
  rotate_left
  ·have h':¬(260:Int)=260:=aJ
   cases (show False from h' rfl)
  clear h
  cbv
  exact ⟨by exact aY⟩
end Go.Proofs.Pk
