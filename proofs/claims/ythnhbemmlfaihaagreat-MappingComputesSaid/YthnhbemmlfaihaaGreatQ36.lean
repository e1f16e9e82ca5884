import Derived.Test.YthnhbemmlfaihaaGreatQ11
import Derived.Test.YthnhbemmlfaihaaGreatQ24
import Derived.Test.YthnhbemmlfaihaaGreatQ34
import Derived.Test.YthnhbemmlfaihaaGreatQ35
set_option linter.unusedVariables false
set_option linter.unusedSimpArgs false
set_option maxRecDepth 10000
set_option maxHeartbeats 64000000
namespace Go.Proofs.Pk
open Go Go.Vc
structure afP where
 x:Pa
 b:List Int
 z:Es
structure afQ (y:afP):Prop where
 x:JN y.x
 b:∀u∈y.b,byte u
 k:byte y.z.k.a/\byte y.z.k.b/\byte y.z.k.c
@[reducible] noncomputable def auM:Vc.Spec where
 α:=afP
 args y:=[.agg [.sl 1 nA (λ_=>y.x.w),.sl 5 yq (λ_=>y.x.g),.sl 4 yu (λ_=>y.x.o)],.sl 1 nA (λ_=>y.b),.agg (Hh y.z)]
 pre y:=afQ y
 res y:=.b (λ_=>true)
theorem apx {b:List Int} (h:∀u∈b,0<=u/\u<=255) (hl:b.length<=1000) (k j:Nat):((b.take k).drop j).length<=1000/\∀u∈(b.take k).drop j,0<=u/\u<=255 :=
 ⟨by rw [tX,iw];omega,λu hu=>h u (tU (tV hu))⟩
theorem anB {z:fO} {k:Cn} {d:Int} {y:fO} (h:JR ⟨z,k,d⟩) (hy:lR z k d=y):qC z k d y:=by
 refine ⟨?_,hy.symm⟩
 rw [<-hy]
 clear hy
 obtain ⟨⟨mn,mc,md⟩,⟨R,V⟩,e⟩:=z
 obtain ⟨ka,kb,kc⟩:=k
 obtain ⟨⟨⟨sA,vQ,Cp⟩,kO,lT⟩,HR,kP,hka,zW,Lp⟩:=h
 simp only at sA vQ Cp kO lT HR kP zW
 have sl:∀(l:List Int) (a b:Int),(setAt l a b).length=l.length:=λl a b=>by unfold setAt;exact ou
 have e6:∀n' zX ld R' V',zl ⟨n',zX,ld⟩->R'.length<=1000000000000->(V'.length<=1000000/\∀l∈V',l.length<=1000000)->sP ⟨⟨n',zX,ld⟩,⟨R',V'⟩,0⟩:=λ_ _ _ _ _ h1 h2 h3=>⟨h1,h2,h3⟩
 unfold lR
 simp only
 split
 ·refine ⟨rfl,.inl rfl,e6 _ _ _ _ _ ⟨sA,vQ,?_⟩ kO lT⟩
  show (if 0 < md.length then setAt md kb d else md).length<=1000000
  split
  ·rw [sl];exact Cp
  ·exact Cp
 ·rename_i dg
  have kY:0 < mc.length:=by
   rcases AP mc.length with q|q
   ·exact absurd (.inl q) dg
   ·exact q
  have fY:=xU zW.1 (show (0:Int) < (mc.length:Int) by omega)
  obtain ⟨ix,nt⟩:∃ix,(kb.tmod (mc.length:Int)).toNat=ix:=⟨_,rfl⟩
  rw [nt]
  have auN:ix < mc.length:=by omega
  obtain ⟨x,hx⟩:=bO auN
  have hg:mc.getD ix ⟨[],0,0⟩=x:=by rw [List.getD_eq_getElem?_getD,hx];rfl
  rw [hg]
  have jM:=vQ x (cB hx)
  have ue:mc.set ix x=mc:=by
   obtain ⟨a,b⟩:=bt.1 hx
   rw [<-b];exact Rn a
  have x5:∀n' (x':Cell),x'.ins.length<=1000000->zl ⟨n',mc.set ix x',md⟩:=λn' x' h=>⟨by show (mc.set ix x').length<=_;rw [ou];exact sA,λc hc=>by
   rcases C4 hc with hc|rfl
   ·exact vQ c hc
   ·exact h,Cp⟩
  split
  ·exact ⟨rfl,.inl rfl,e6 _ _ _ _ _ (x5 _ _ jM) kO lT⟩
  split
  ·exact ⟨rfl,.inl rfl,e6 _ _ _ _ _ (x5 _ _ jM) kO lT⟩
  split
  ·refine ⟨rfl,.inl rfl,e6 _ _ _ _ _ (x5 _ _ ?_) kO lT⟩
   show (if 0 < x.ins.length then setAt x.ins kc d else x.ins).length<=1000000
   split
   ·rw [sl];exact jM
   ·exact jM
  split
  ·exact ⟨rfl,.inr (.inr ⟨by rw [ue],rfl,ix,_,rfl⟩),e6 _ _ _ _ _ (x5 _ _ jM) (by rw [ou];exact kO) lT⟩
  split
  ·refine ⟨rfl,.inr (.inl ⟨by rw [ue],rfl⟩),e6 _ _ _ _ _ (x5 _ _ jM) kO ?_⟩
   have hV:∀l∈V,l.length<=1000000:=lT.2
   have Px:(V.getD ix []).length<=1000000:=by
    rw [List.getD_eq_getElem?_getD]
    cases hq:V[ix]? with
    | none=>show (0:Nat)<=_;omega
    | some l=>exact hV l (cB hq)
   split
   ·refine ⟨by rw [ou];exact lT.1,λl hl=>?_⟩
    rcases C4 hl with hl|rfl
    ·exact hV l hl
    ·rw [sl];exact Px
   ·exact lT
  ·exact ⟨rfl,.inl rfl,e6 _ _ _ _ _ (x5 _ _ jM) kO lT⟩
def W5 (n:Net) (z:Es) (L:List fO):Vc.St :=
 ⟨[.any,.any,.any,.ptr 0 0,.any,.ptr 1 0,.any,.b (λ_=>true),.ptr 3 0,.any,.sl 6 s6 (λ_=>L)]++qY 143,
  [.dead,.fix 87 (Hh z),.dead,.fix 48 (jr n)]⟩
noncomputable def auO (n m:Nat):Ctx:=Qk n m [(30,Tryz.f30),(33,Tryz.f33),(32,Tryz.f32),(41,Tryz.f41)] [(29,Vm),(104,Pe),(31,ael),(42,afF),(43,afO),(44,O9),(40,Pr),(49,Po),(59,Vr),(48,Vt),(58,Vs),(57,Vq)] [32,41] [] [9] [105]
theorem apy (n m:Nat):CB PP (auO n m):=Ug n m ⟨fo Tryz.func30,fo Tryz.func33,fo Tryz.func32,fo Tryz.func41,trivial⟩ ⟨ac0,TA,anA,ao9,apw,Tz,TJ,TF,ac5,ac7,ac6,ac4,trivial⟩
noncomputable def ard (n m:Nat):Ctx:=Qk n m [(41,Tryz.f41)] [(44,O9),(40,Pr),(49,Po),(59,Vr),(48,Vt),(58,Vs),(57,Vq)] [41]
theorem abY (n m:Nat):CB PP (ard n m):=Ug n m ⟨fo Tryz.func41,trivial⟩ ⟨Tz,TJ,TF,ac5,ac7,ac6,ac4,trivial⟩
theorem apz:cR (PP ()) 9 auM:=by
 refine et (apy 0 0) (fo Tryz.func9) (λa=>⟨⟨λx=>(y7 x).1,λx=>(NO x).1,λx=>(NP x).1,trivial⟩,λx=>(y7 x).1,abW _,trivial⟩) (λa=>trivial) ?_
 rintro ⟨⟨w,g,o⟩,b,⟨⟨zn,zc,zd⟩,⟨ka,kb,kc⟩,d,mO,ms⟩⟩ hx
 obtain ⟨hx,tq,hk⟩:afQ ⟨⟨w,g,o⟩,b,⟨⟨zn,zc,zd⟩,⟨ka,kb,kc⟩,d,mO,ms⟩⟩:=hx
 have hx:JN ⟨w,g,o⟩:=hx
 have tq:∀u∈b,byte u:=tq
 have hk:byte ka/\byte kb/\byte kc:=hk
 have HP:∃e:Bool,e=true↔Kv ⟨⟨zn,zc,zd⟩,⟨ka,kb,kc⟩,d,mO,ms⟩:=by
  by_cases q:Kv ⟨⟨zn,zc,zd⟩,⟨ka,kb,kc⟩,d,mO,ms⟩
  ·exact ⟨true,by simp [q]⟩
  ·exact ⟨false,by simp [q]⟩
 refine HP.elim λsm HP=>?_
 refine ⟨?_⟩
 cbv
 refine ⟨(),⟨by exact bp,trivial⟩,?_⟩
 cbv
 refine ⟨λh=>?_,λh=>?_⟩
 ·have h:=h.out
  cases (show False by simp at h)
 clear h
 cbv
 refine ⟨λh=>?_,λh=>?_⟩
 rotate_left
 ·clear h
  cbv
  exact ⟨by exact bp⟩
 clear h
 cbv
 refine ⟨λh=>?_,λh=>?_⟩
 rotate_left
 ·clear h
  cbv
  exact ⟨by exact bp⟩
 clear h
 cbv
 refine ⟨λh=>?_,λh=>?_⟩
 ·clear h
  cbv
  exact ⟨by exact bp⟩
 clear h
 cbv
 refine ⟨⟨⟨⟨zn,zc,zd⟩,⟨ka,kb,kc⟩,d,mO,ms⟩,sm⟩,⟨by exact bp,HP⟩,?_⟩
 cbv
 refine ⟨λh=>?_,λh=>?_⟩
 ·clear h
  cbv
  exact ⟨by exact bp⟩
 have auP:sm=true:=by have:=h.out;simpa using this
 have hS:=HP.1 auP
 have Kj:mO.length<=40:=hS.mO
 clear h
 cbv
 refine ⟨λh=>?_,λh=>?_⟩
 ·clear h
  cbv
  exact ⟨by exact bp⟩
 have jW:b.length<=200:=by have h':=h.out;simp only [dw,decide_eq_false_iff_not] at h';exact cx
 clear h
 cbv
 refine gw.rel aon ⟨w,g,o⟩ (by exact cj) ⟨hx⟩ λn=>?_
 refine n.casesOn λins gs outs dr hn=>?_
 have hn:PY ⟨ins,gs,outs,dr⟩:=hn.out
 have jZ:dr.length<=1000000:=by have:=hn.d;show dr.length<=_;simp only at this;omega
 have hG:ca ins.length gs:=hn.G
 have ur:∀d∈dr,0<=d/\d < 2+(ins.length:Int)+gs.length:=hn.dr
 have hby:∀z∈b,0<=z/\z<=255:=λz hz=>by have:=tq z hz;unfold byte at this;omega
 have iX:b.length<=1000:=by omega
 have hi9:ins.length<=9:=hn.i
 refine (⟨_,_,_,rfl⟩:∃m c e,mapM ins.length gs dr=(m,c,e)).elim λm hm=>?_
 refine hm.elim λc hm=>?_
 refine hm.elim λe hm=>?_
 have hm:G9 ⟨ins,gs,outs,dr⟩ m c e:=⟨hn.G,hn.dr,jZ,hm⟩
 have mE:e=0->mA ins.length gs dr m c=true/\sP ⟨m,c,e⟩:=λh=>by subst h;exact ⟨by
  have:=hm.eq
  unfold mapM at this
  cases hl:kF ins.length gs with
  | none=>simp only at this;rw [hl] at this;simp at this
  | some s =>
   simp only at this
   rw [hl] at this
   simp only [Prod.mk.injEq] at this
   obtain ⟨rfl,rfl,_⟩:=this
   exact ach hG (Js _ rfl hG hl) ur,(U9 hm).e6⟩
 refine (ac1 (n:=⟨ins,gs,outs,dr⟩) hG ur b).elim λy1=>?_
 refine y1.casesOn λm1 r1 l1 e1 jB=>?_
 have tk:mA ins.length gs dr m1 ⟨r1,l1⟩=true:=jB.ok
 have sA:=abX (n:=⟨ins,gs,outs,dr⟩) hG jZ tk e1
 refine (⟨_,rfl⟩:∃b2,(b.take (((b.length:Int)).tdiv 2).toNat).drop 0=b2).elim λb2 mi=>?_
 have lF:=apx hby iX (((b.length:Int)).tdiv 2).toNat 0
 rw [mi] at lF
 refine (ac1 (n:=⟨ins,gs,outs,dr⟩) hG ur b2).elim λy2=>?_
 refine y2.casesOn λm2 r2 l2 e2 mH=>?_
 have zL:mA ins.length gs dr m2 ⟨r2,l2⟩=true:=mH.ok
 have vQ:=abX (n:=⟨ins,gs,outs,dr⟩) hG jZ zL e2
 have nB:Ud ⟨⟨ins,gs,outs,dr⟩,b,⟨m1,r1,l1,e1⟩⟩:=⟨hG,⟨jZ,ur⟩,⟨iX,hby⟩,jB⟩
 have nv:Ud ⟨⟨ins,gs,outs,dr⟩,b2,⟨m2,r2,l2,e2⟩⟩:=⟨hG,⟨jZ,ur⟩,lF,mH⟩
 have vH:JR ⟨⟨m1,⟨r1,l1⟩,e1⟩,⟨ka,kb,kc⟩,d⟩:=⟨sA.1,sA.2.1,sA.2.2,hk⟩
 refine (⟨_,rfl⟩:∃y3,lR ⟨m1,⟨r1,l1⟩,e1⟩ ⟨ka,kb,kc⟩ d=y3).elim λy3 B3=>?_
 revert hm mE jB tk sA mH zL vQ nB nv vH B3
 refine m.casesOn λmn mc md=>?_
 refine c.casesOn λR V=>?_
 refine m1.casesOn λz8 Aa Ab=>?_
 refine m2.casesOn λH7 H8 H9=>?_
 refine y3.casesOn λm3 c3 e3=>?_
 refine m3.casesOn λE5 E6 E7=>?_
 refine c3.casesOn λr3 l3=>?_
 intro hm mE jB tk sA mH zL vQ nB nv vH B3
 have pc:((b.length:Int)).tdiv 2=((b.length / 2:Nat):Int):=by rw [MD (by omega)];omega
 have hwq:IntKind.i64.wrap (((b.length:Int)).tdiv 2)=((b.length:Int)).tdiv 2:=by rw [pc,dt (by omega) (by omega)]
 have gR:0<=(0:Int)/\(0:Int)<=IntKind.i64.wrap (((b.length:Int)).tdiv 2)/\IntKind.i64.wrap (((b.length:Int)).tdiv 2)<=(b.length:Int):=by rw [hwq,pc];omega
 have auQ:(b.take (IntKind.i64.wrap (((b.length:Int)).tdiv 2)).toNat).drop 0=b2:=by rw [hwq];exact mi
 cbv
 refine ⟨⟨⟨ins,gs,outs,dr⟩,⟨mn,mc,md⟩,⟨R,V⟩,e⟩,⟨by exact bp,hm⟩,?_⟩
 cbv
 refine ⟨⟨⟨ins,gs,outs,dr⟩,b,⟨⟨z8,Aa,Ab⟩,r1,l1,e1⟩⟩,⟨by exact bp,nB⟩,?_⟩
 cbv
 refine ⟨⟨by decide⟩,?_⟩
 cbv
 refine ⟨⟨gR⟩,?_⟩
 cbv
 refine ⟨⟨⟨ins,gs,outs,dr⟩,b2,⟨⟨H7,H8,H9⟩,r2,l2,e2⟩⟩,⟨by have gS:=auQ;exact bX,nv⟩,?_⟩
 cbv
 refine ⟨⟨⟨ins,gs,outs,dr⟩,b,⟨⟨z8,Aa,Ab⟩,r1,l1,e1⟩⟩,⟨by exact bp,nB⟩,?_⟩
 cbv
 refine ⟨⟨⟨⟨z8,Aa,Ab⟩,⟨r1,l1⟩,e1⟩,⟨ka,kb,kc⟩,d,⟨⟨E5,E6,E7⟩,⟨r3,l3⟩,e3⟩⟩,⟨by exact bp,vH,B3⟩,?_⟩
 cbv
 refine ⟨[⟨⟨z8,Aa,Ab⟩,⟨r1,l1⟩,e1⟩,⟨⟨H7,H8,H9⟩,⟨r2,l2⟩,e2⟩,⟨⟨E5,E6,E7⟩,⟨r3,l3⟩,e3⟩],⟨by exact cj,rfl⟩,?_⟩
 cbv
 apply wv (λc k=>∀L:List fO,L.length<=4->(∀(i:Nat) (y:fO),L[i]?=some y->sP y/\(i≠2->mA ins.length gs dr y.m y.c=true))->Sat [] false PP c (W5 ⟨ins,gs,outs,dr⟩ ⟨⟨zn,zc,zd⟩,⟨ka,kb,kc⟩,d,mO,ms⟩ L) k)
 ·intro tail
  have auR:qC ⟨⟨z8,Aa,Ab⟩,⟨r1,l1⟩,e1⟩ ⟨ka,kb,kc⟩ d ⟨⟨E5,E6,E7⟩,⟨r3,l3⟩,e3⟩:=anB vH B3
  have h3f:=auR.out.e6
  have LD:∀(i:Nat) (y:fO),([⟨⟨z8,Aa,Ab⟩,⟨r1,l1⟩,e1⟩,⟨⟨H7,H8,H9⟩,⟨r2,l2⟩,e2⟩,⟨⟨E5,E6,E7⟩,⟨r3,l3⟩,e3⟩]:List fO)[i]?=some y->sP y/\(i≠2->mA ins.length gs dr y.m y.c=true):=λi y h=>by
   match i,h with
   | 0,h=>simp at h;subst h;exact ⟨sA.1,λ_=>tk⟩
   | 1,h=>simp at h;subst h;exact ⟨vQ.1,λ_=>zL⟩
   | 2,h=>simp at h;subst h;exact ⟨h3f,λq=>absurd rfl q⟩
   | k+3,h=>simp at h
  have W6:e=0->∀(i:Nat) (y:fO),([⟨⟨z8,Aa,Ab⟩,⟨r1,l1⟩,e1⟩,⟨⟨H7,H8,H9⟩,⟨r2,l2⟩,e2⟩,⟨⟨E5,E6,E7⟩,⟨r3,l3⟩,e3⟩]++[⟨⟨mn,mc,md⟩,⟨R,V⟩,e⟩]:List fO)[i]?=some y->sP y/\(i≠2->mA ins.length gs dr y.m y.c=true):=λhe i y h=>by
   match i,h with
   | 0,h=>exact LD 0 y h
   | 1,h=>exact LD 1 y h
   | 2,h=>exact LD 2 y h
   | 3,h=>simp at h;subst h;exact ⟨(mE he).2,λ_=>(mE he).1⟩
   | k+4,h=>simp at h
  refine (⟨_,rfl⟩:∃L3:List fO,[⟨⟨z8,Aa,Ab⟩,⟨r1,l1⟩,e1⟩,⟨⟨H7,H8,H9⟩,⟨r2,l2⟩,e2⟩,⟨⟨E5,E6,E7⟩,⟨r3,l3⟩,e3⟩]=L3).elim λL3 LG=>?_
  have Hm:L3.length=3:=by rw [<-LG];rfl
  have tw:(L3++[(⟨⟨mn,mc,md⟩,⟨R,V⟩,e⟩:fO)]).length<=4:=by rw [List.length_append,Hm];show 3+1<=4;decide
  rw [LG] at LD W6
  refine (⟨_,rfl⟩:∃L4:List fO,L3++[(⟨⟨mn,mc,md⟩,⟨R,V⟩,e⟩:fO)]=L4).elim λL4 hE4=>?_
  rw [hE4] at W6 tw
  have hE5:([⟨⟨z8,Aa,Ab⟩,⟨r1,l1⟩,e1⟩,⟨⟨H7,H8,H9⟩,⟨r2,l2⟩,e2⟩,⟨⟨E5,E6,E7⟩,⟨r3,l3⟩,e3⟩]:List fO)++[⟨⟨mn,mc,md⟩,⟨R,V⟩,e⟩]=L4:=by rw [LG];exact hE4
  refine ⟨λh=>?_,λh=>?_⟩
  ·have he:e=0:=aH
   have W7:=W6 he
   clear h
   cbv
   refine ⟨[⟨⟨mn,mc,md⟩,⟨R,V⟩,e⟩],⟨by exact cj,rfl⟩,?_⟩
   cbv
   refine ⟨[⟨⟨mn,mc,md⟩,⟨R,V⟩,e⟩],⟨by exact bp,by show (3+1)*112<=140737488355328;decide,by show 3+1<=9223372036854775807;decide⟩,?_⟩
   cbv
   refine Sat.freeze 11 rfl rfl ?_
   cbv
   exact gg 4 (W5 ⟨ins,gs,outs,dr⟩ ⟨⟨zn,zc,zd⟩,⟨ka,kb,kc⟩,d,mO,ms⟩ L4) (by have gS:=hE5;exact bh) (by have gS:=hE5;exact bh) (tail L4 tw W7)
  ·clear h
   cbv
   refine Sat.freeze 9 rfl rfl ?_
   cbv
   exact gg 4 (W5 ⟨ins,gs,outs,dr⟩ ⟨⟨zn,zc,zd⟩,⟨ka,kb,kc⟩,d,mO,ms⟩ L3) (by have gS:=LG;exact bh) (by have gS:=LG;exact bh) (tail L3 (by omega) LD)
 ·intro L tw W7
  refine Sat.j2 (abY 0 0) ?_
  cbv
  refine gw.rel apv ⟨ins.length,mO⟩ (by exact cj) ⟨by show ins.length<=1000000;omega,by show mO.length<=1000000;omega⟩ λinn Kw=>?_
  have Kw:inn.length=ins.length:=Kw.out
  refine (⟨_,rfl⟩:∃vv,kH ms inn gs=vv).elim λvv yp=>?_
  refine (⟨_,rfl⟩:∃want,dr.map (eE vv)=want).elim λwant JF=>?_
  have Cl:want.length<=1000000:=by rw [<-JF,iR];exact jZ
  have il:vv.length=2+ins.length+gs.length:=by rw [<-yp,aaV,Kw]
  have hou:OC ⟨⟨ins,gs,outs,dr⟩,vv,want⟩:=⟨jZ,λd hd=>by have:=ur d hd;show 0<=d/\d.toNat < vv.length;exact cx,JF⟩
  have hEl:∀y:fO,sP y->∃e,ElF ⟨ins,gs,outs,dr⟩ inn ms want y e/\(mA ins.length gs dr y.m y.c=true->e=0):=λy hf=>by
   have:=elF (n:=⟨ins,gs,outs,dr⟩) hG jZ Kw ms hf
   simp only at this
   rw [yp,JF] at this
   exact this
  cbv
  refine ⟨⟨⟨ins,gs,outs,dr⟩,inn,ms,vv⟩,⟨by exact bp,⟨hG,Kw⟩,yp⟩,?_⟩
  cbv
  refine ⟨⟨⟨ins,gs,outs,dr⟩,vv,want⟩,⟨by exact bp,hou⟩,?_⟩
  cbv
  refine Sat.dq (abY 0 0) 99 13 [] (λi:Nat=>[(13,.i .i64 λ_=>(i:Int))]) (λ_=>[]) (λi=>i<=L.length) (λi=>L.length - i) 0 (by exact aM) (by exact aM) (cg _) ?_
  intro i hi
  have hi:i<=L.length:=hi
  have h0:=n0 i
  have h1:=dC (i:=i) (by omega)
  cbv
  refine ⟨λh=>?_,λh=>?_⟩
  rotate_left
  ·clear h
   cbv
   exact ⟨by exact bp⟩
  have bM:i < L.length:=aH
  have bZ:L.length - (i+1) < L.length - i:=by omega
  have gy:i+1<=L.length/\L.length - (i+1) < L.length - i:=⟨bM,bZ⟩
  refine (bO bM).elim λy=>?_
  refine y.casesOn λym yc0 ye=>?_
  refine ym.casesOn λyn yc yd=>?_
  refine yc0.casesOn λyr yl hy=>?_
  have HH:=W7 i _ hy
  refine (hEl _ HH.1).elim λe hE=>?_
  have Ic:=hE.1
  have hE2:¬(i:Int)=2->e=0:=λq=>hE.2 (HH.2 λr=>q (by rw [r];rfl))
  have BZ:=Ic.ck
  rcases Ic.or with he|he
  ·subst he
   have KB:yn=(inn.length:Int):=Ic.n rfl
   have yw:=Ic.v rfl
   have Qi:=Ic.ev rfl
   have fb:=Ic.out rfl
   refine (⟨_,rfl⟩:∃ev,iA ms inn yc=ev).elim λev KT=>?_
   rw [KT] at fb
   clear h
   cbv
   refine ⟨⟨⟨yn,yc,yd⟩,⟨yr,yl⟩,ye⟩,⟨h0,hy⟩,?_⟩
   cbv
   refine ⟨⟨⟨yn,yc,yd⟩,⟨yr,yl⟩,ye⟩,⟨h0,hy⟩,?_⟩
   cbv
   refine ⟨⟨⟨ins,gs,outs,dr⟩,⟨yn,yc,yd⟩,⟨yr,yl⟩,0⟩,⟨by exact bp,BZ⟩,?_⟩
   cbv
   refine ⟨λh=>?_,λh=>?_⟩
   ·clear h
    cbv
    refine ⟨λh=>?_,λh=>?_⟩
    ·have h':¬(0:Int)=0:=aH
     cases (show False from h' rfl)
    clear h
    cbv
    refine ⟨λh=>?_,λh=>?_⟩
    ·have h':¬(0:Int)=0:=aH
     cases (show False from h' rfl)
    clear h
    cbv
    refine ⟨λh=>?_,λh=>?_⟩
    rotate_left
    ·have h':¬(0:Int)=0:=aH
     cases (show False from h' rfl)
    clear h
    cbv
    refine ⟨⟨⟨yn,yc,yd⟩,⟨yr,yl⟩,ye⟩,⟨h0,hy⟩,?_⟩
    cbv
    refine ⟨λh=>?_,λh=>?_⟩
    ·have h':¬yn=(inn.length:Int):=aH
     cases (show False from h' KB)
    clear h
    cbv
    refine ⟨⟨⟨yn,yc,yd⟩,⟨yr,yl⟩,ye⟩,⟨h0,hy⟩,?_⟩
    cbv
    refine ⟨⟨⟨yn,yc,yd⟩⟩,⟨by exact bp,yw⟩,?_⟩
    cbv
    refine ⟨λh=>?_,λh=>?_⟩
    rotate_left
    ·have h':¬(0:Int)=0:=aH
     cases (show False from h' rfl)
    clear h
    cbv
    refine ⟨⟨⟨yn,yc,yd⟩,⟨yr,yl⟩,ye⟩,⟨h0,hy⟩,?_⟩
    cbv
    refine ⟨⟨⟨yn,yc,yd⟩,⟨yr,yl⟩,ye⟩,⟨h0,hy⟩,?_⟩
    cbv
    refine ⟨⟨⟨yn,yc,yd⟩,inn,ms⟩,⟨by exact bp,Qi⟩,?_⟩
    cbv
    refine ⟨⟨⟨yn,yc,yd⟩,ev,want⟩,⟨by have gS:=KT;exact bX,fb⟩,?_⟩
    cbv
    refine ⟨⟨want,want,true⟩,⟨by exact bp,⟨Cl,Cl⟩,by simp⟩,?_⟩
    cbv
    refine ⟨λh=>?_,λh=>?_⟩
    ·have h:=h.out
     cases (show False by simp at h)
    clear h
    cbv
    exact ⟨i+1,by have bH:=h1;exact bh,by exact aM,⟨gy⟩⟩
   ·clear h
    cbv
    refine ⟨λh=>?_,λh=>?_⟩
    ·have h':¬(0:Int)=0:=aH
     cases (show False from h' rfl)
    clear h
    cbv
    refine ⟨λh=>?_,λh=>?_⟩
    rotate_left
    ·have h':¬(0:Int)=0:=aH
     cases (show False from h' rfl)
    clear h
    cbv
    refine ⟨⟨⟨yn,yc,yd⟩,⟨yr,yl⟩,ye⟩,⟨h0,hy⟩,?_⟩
    cbv
    refine ⟨λh=>?_,λh=>?_⟩
    ·have h':¬yn=(inn.length:Int):=aH
     cases (show False from h' KB)
    clear h
    cbv
    refine ⟨⟨⟨yn,yc,yd⟩,⟨yr,yl⟩,ye⟩,⟨h0,hy⟩,?_⟩
    cbv
    refine ⟨⟨⟨yn,yc,yd⟩⟩,⟨by exact bp,yw⟩,?_⟩
    cbv
    refine ⟨λh=>?_,λh=>?_⟩
    rotate_left
    ·have h':¬(0:Int)=0:=aH
     cases (show False from h' rfl)
    clear h
    cbv
    refine ⟨⟨⟨yn,yc,yd⟩,⟨yr,yl⟩,ye⟩,⟨h0,hy⟩,?_⟩
    cbv
    refine ⟨⟨⟨yn,yc,yd⟩,⟨yr,yl⟩,ye⟩,⟨h0,hy⟩,?_⟩
    cbv
    refine ⟨⟨⟨yn,yc,yd⟩,inn,ms⟩,⟨by exact bp,Qi⟩,?_⟩
    cbv
    refine ⟨⟨⟨yn,yc,yd⟩,ev,want⟩,⟨by have gS:=KT;exact bX,fb⟩,?_⟩
    cbv
    refine ⟨⟨want,want,true⟩,⟨by exact bp,⟨Cl,Cl⟩,by simp⟩,?_⟩
    cbv
    refine ⟨λh=>?_,λh=>?_⟩
    ·have h:=h.out
     cases (show False by simp at h)
    clear h
    cbv
    exact ⟨i+1,by have bH:=h1;exact bh,by exact aM,⟨gy⟩⟩
  ·subst he
   have tu:(i:Int)=2:=Classical.byContradiction λq=>by have:=hE2 q;omega
   clear h
   cbv
   refine ⟨⟨⟨yn,yc,yd⟩,⟨yr,yl⟩,ye⟩,⟨h0,hy⟩,?_⟩
   cbv
   refine ⟨⟨⟨yn,yc,yd⟩,⟨yr,yl⟩,ye⟩,⟨h0,hy⟩,?_⟩
   cbv
   refine ⟨⟨⟨ins,gs,outs,dr⟩,⟨yn,yc,yd⟩,⟨yr,yl⟩,260⟩,⟨by exact bp,BZ⟩,?_⟩
   cbv
   refine ⟨λh=>?_,λh=>?_⟩
   ·have h':¬(i:Int)=2:=aH
    cases (show False from h' tu)
   clear h
   cbv
   refine ⟨λh=>?_,λh=>?_⟩
   rotate_left
   ·have h':(260:Int)=0:=aH
    cases (show False by omega)
   clear h
   cbv
   refine ⟨λh=>?_,λh=>?_⟩
   ·have h':¬(260:Int)=260:=aH
    cases (show False from h' rfl)
   clear h
   cbv
   refine ⟨λh=>?_,λh=>?_⟩
   ·have h':(260:Int)=0:=aH
    cases (show False by omega)
   clear h
   cbv
   refine ⟨λh=>?_,λh=>?_⟩
   ·have h':(260:Int)=0:=aH
    cases (show False by omega)
   clear h
   cbv
   exact ⟨i+1,by have bH:=h1;exact bh,by exact aM,⟨gy⟩⟩
end Go.Proofs.Pk
