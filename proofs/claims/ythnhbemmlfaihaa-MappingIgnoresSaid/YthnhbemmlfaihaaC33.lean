import Derived.Test.YthnhbemmlfaihaaC13
import Derived.Test.YthnhbemmlfaihaaC28
import Derived.Test.YthnhbemmlfaihaaC31
import Derived.Test.YthnhbemmlfaihaaC32
set_option linter.unusedVariables false
set_option linter.unusedSimpArgs false
set_option maxRecDepth 10000
set_option maxHeartbeats 64000000
namespace Go.Proofs.Pk
open Go Go.Vc
theorem cv.add {I:Nat} {gs:List Gate} (G:cv I gs) {y:Gate} (hy:uX (2+(I:Int)+gs.length) y) (hb:2+I+(gs.length+1)<=600):cv I (gs++[y]):=⟨by rw [fJ];exact hb,λq z hz=>by
 rcases oA q gs.length with hq|hq
 ·rw [iu hq] at hz;exact G.bU q z hz
 ·rw [pI hq] at hz
  have:q - gs.length=0:=by
   have:=(bq.1 hz).1
   simp at this;omega
  rw [this] at hz;cases hz
  rw [show q=gs.length by omega];exact hy⟩
structure GuF (ba bb bc bd be own lim K A B C N:Int):Prop where
 k:IntKind.i64.wrap (1+IntKind.i64.wrap (ba.tmod 7))=K
 a:(IntKind.i64.wrap bb).tmod own=A
 b:(IntKind.i64.wrap bc).tmod own=B
 c:(IntKind.i64.wrap bd).tmod own=C
 n:IntKind.i64.wrap (be.tmod 64)=N
 v7:¬own=0
 ok:∀b' c' n',(b'=0\/b'=B)->(c'=0\/c'=C)->(n'=0\/n'=N)->uX lim ⟨K,A,b',c',n'⟩
theorem guF {ba bb bc bd be own lim:Int} (h:byte ba/\byte bb/\byte bc/\byte bd/\byte be) (ho:own=lim) (hl:2<=lim):∃K A B C N,GuF ba bb bc bd be own lim K A B C N:=by
 obtain ⟨ha,hb,hc,hd,he⟩:=h
 have t1:=qK ha.1 (show (0:Int) < 7 by omega)
 have t2:=qK he.1 (show (0:Int) < 64 by omega)
 refine ⟨_,_,_,_,_,rfl,rfl,rfl,rfl,rfl,by omega,λb' c' n' h1 h2 h3=>?_⟩
 rw [Ci hb]
 rw [Ci hc] at h1
 rw [Ci hd] at h2
 have k1:IntKind.i64.wrap (ba.tmod 7)=ba.tmod 7:=ei (by omega) (by omega)
 have k2:IntKind.i64.wrap (be.tmod 64)=be.tmod 64:=ei (by omega) (by omega)
 have k6:IntKind.i64.wrap (1+ba.tmod 7)=1+ba.tmod 7:=ei (by omega) (by omega)
 rw [k2] at h3
 rw [k1,k6]
 have u1:=qK hb.1 (show 0 < own by omega)
 have u2:=qK hc.1 (show 0 < own by omega)
 have u3:=qK hd.1 (show 0 < own by omega)
 refine ⟨⟨by show 1<=1+ba.tmod 7;omega,by show 1+ba.tmod 7<=7;omega⟩,⟨u1.1,by show bb.tmod own < lim;omega⟩,?_,?_,?_⟩
 ·show 0<=b'/\b' < lim
  rcases h1 with rfl|rfl<;>omega
 ·show 0<=c'/\c' < lim
  rcases h2 with rfl|rfl<;>omega
 ·show 0<=n'/\n' < 64
  rcases h3 with rfl|rfl<;>omega
structure XY where
 x:Jk
 b:B5
structure XZ (z:XY):Prop where
 x:Ez z.x
 b:byte z.b.a/\byte z.b.b/\byte z.b.c/\byte z.b.d/\byte z.b.e
@[reducible] noncomputable def akc:Vc.Spec where
 α:=XY
 args z:=[.agg [.sl 1 sF (λ_=>z.x.w),.sl 5 tP (λ_=>z.x.g),.sl 4 uY (λ_=>z.x.o)],.agg (tP z.b)]
 pre z:=XZ z
 res z:=.b (λ_=>true)
theorem ae8 {n:Net} (h:F6 n) {y:Gate} (hy:uX (2+(n.ins.length:Int)+n.bU.length) y):∃m c e,uM n m c e/\∃m' c' e',uM ⟨n.ins,n.bU++[y],n.outs,n.bf⟩ m' c' e'/\(e'=0->e=0/\m'=m/\c'=c):=by
 have hd:n.bf.length<=1000000:=by have:=h.d;omega
 have G:=cv.add h.G hy (by have:=h.i;have:=h.g;omega)
 have hl:(n.bU++[y]).length=n.bU.length+1:=by rw [fJ];rfl
 obtain ⟨⟨m,c,e⟩,hp⟩:∃p,mapM n.ins.length n.bU n.bf=p:=⟨_,rfl⟩
 obtain ⟨⟨m',c',e'⟩,hq⟩:∃p,mapM n.ins.length (n.bU++[y]) n.bf=p:=⟨_,rfl⟩
 refine ⟨m,c,e,⟨h.G,h.dr,hd,hp⟩,m',c',e',⟨G,λd hd=>by have:=h.dr d hd;show 0<=d/\d < 2+(n.ins.length:Int)+(n.bU++[y]).length;rw [hl];omega,hd,hq⟩,λe0=>?_⟩
 have:=ach (g:=y) G h.dr (by rw [hq];exact e0)
 rw [hp,hq] at this
 simp only [Prod.mk.injEq] at this
 obtain ⟨h1,h2,h3⟩:=this
 exact ⟨by rw [<-h3];exact e0,h1,h2⟩
def wI (n:Net) (y:Gate):Vc.St :=
 ⟨[.any,.any,.any,.any,.any,.b (λ_=>true),.ptr 3 0,.any,.ptr 4 0]++r9 86,
  [.dead,.dead,.dead,.fix 34 (oj n),.fix 53 (lT y)]⟩
noncomputable def akd (n m:Nat):Ctx:=cP n m [(6,Try.f6),(8,Try.f8),(7,Try.f7)] [(5,XW),(12,H6),(19,Jg),(11,Ou)] [7] [] [13,15]
theorem agt (n m:Nat):CB PP (akd n m):=cR n m ⟨fo Try.func6,fo Try.func8,fo Try.func7,trivial⟩ ⟨agr,Mp,Nb,VL,trivial⟩
noncomputable def cIg (n m:Nat):Ctx:=cP n m [(8,Try.f8)] [(19,Jg)]
theorem IE (n m:Nat):CB PP (cIg n m):=cR n m ⟨fo Try.func8,trivial⟩ ⟨Nb,trivial⟩
theorem agu:dm (PP ()) 4 akc:=by
 refine fl (agt 0 0) (fo Try.func4) (λa=>⟨⟨λx=>(HW x).1,λx=>(El x).1,λx=>(HX x).1,trivial⟩,(El _).1,trivial⟩) (λa=>trivial) ?_
 rintro ⟨⟨w,g,o⟩,⟨ba,bb,bc,bd,be⟩⟩ hx
 obtain ⟨hx,Pw⟩:XZ ⟨⟨w,g,o⟩,⟨ba,bb,bc,bd,be⟩⟩:=hx
 have hx:Ez ⟨w,g,o⟩:=hx
 refine ⟨?_⟩
 cbv
 refine ⟨(),⟨by exact a7,trivial⟩,?_⟩
 cbv
 refine ⟨λh=>?_,λh=>?_⟩
 ·have h:=h.out
  cases (show False by simp at h)
 clear h
 cbv
 refine ⟨λh=>?_,λh=>?_⟩
 rotate_left
 ·clear h
  cbv
  exact ⟨by exact a7⟩
 clear h
 cbv
 refine ⟨λh=>?_,λh=>?_⟩
 rotate_left
 ·clear h
  cbv
  exact ⟨by exact a7⟩
 clear h
 cbv
 refine ⟨λh=>?_,λh=>?_⟩
 ·clear h
  cbv
  exact ⟨by exact a7⟩
 clear h
 cbv
 refine iW.rel ags ⟨w,g,o⟩ (by exact gw) ⟨hx⟩ λn=>?_
 refine n.casesOn λins gs outs dr hn=>?_
 have hn:F6 ⟨ins,gs,outs,dr⟩:=hn.out
 have hI:ins.length<=9:=hn.i
 have hgl:gs.length<=60:=hn.g
 have fe:2+ins.length+gs.length<=1000000:=by omega
 have B7:(2:Int)<=2+(ins.length:Int)+gs.length:=by omega
 refine (guF (own:=M8 ⟨ins,gs,outs,dr⟩) Pw rfl B7).elim λK hF=>?_
 refine hF.elim λA hF=>?_
 refine hF.elim λB hF=>?_
 refine hF.elim λC hF=>?_
 refine hF.elim λN hF=>?_
 have IF:∀y:Gate,uX (2+(ins.length:Int)+gs.length) y->∃m c e,uM ⟨ins,gs,outs,dr⟩ m c e/\∃m' c' e',uM ⟨ins,gs++[y],outs,dr⟩ m' c' e'/\(e'=0->e=0/\m'=m/\c'=c):=λy hy=>ae8 hn hy
 have b1:(([]:List Gate).length+gs.length)*40<=140737488355328:=by show (0+gs.length)*40<=_;omega
 have b2:([]:List Gate).length+gs.length<=9223372036854775807:=by show 0+gs.length<=_;omega
 have b3:(gs.length+1)*40<=140737488355328:=by omega
 have b4:gs.length+1<=9223372036854775807:=by omega
 cbv
 refine ⟨⟨ins,gs,outs,dr⟩,⟨by exact a7,fe⟩,?_⟩
 cbv
 refine ⟨⟨by decide⟩,⟨hF.v7⟩,?_⟩
 apply xl (λc k=>∀y:Gate,uX (2+(ins.length:Int)+gs.length) y->Sat [] false PP c (wI ⟨ins,gs,outs,dr⟩ y) k)
 ·intro tail
  cbv
  refine ⟨λh=>?_,λh=>?_⟩
  ·clear h
   cbv
   refine ⟨⟨hF.v7⟩,?_⟩
   cbv
   refine ⟨λh=>?_,λh=>?_⟩
   ·clear h
    cbv
    refine ⟨⟨hF.v7⟩,?_⟩
    cbv
    refine ⟨λh=>?_,λh=>?_⟩
    ·clear h
     cbv
     refine ⟨⟨by decide⟩,?_⟩
     cbv
     exact fW 5 (wI ⟨ins,gs,outs,dr⟩ ⟨K,A,B,C,N⟩) (by have bE:=hF.k;have fO:=hF.a;have iQ:=hF.b;have jG:=hF.c;have jH:=hF.n;exact a8) (by have bE:=hF.k;have fO:=hF.a;have iQ:=hF.b;have jG:=hF.c;have jH:=hF.n;exact a8) (tail _ (hF.ok _ _ _ (.inr rfl) (.inr rfl) (.inr rfl)))
    ·clear h
     cbv
     exact fW 5 (wI ⟨ins,gs,outs,dr⟩ ⟨K,A,B,C,0⟩) (by have bE:=hF.k;have fO:=hF.a;have iQ:=hF.b;have jG:=hF.c;have jH:=hF.n;exact a8) (by have bE:=hF.k;have fO:=hF.a;have iQ:=hF.b;have jG:=hF.c;have jH:=hF.n;exact a8) (tail _ (hF.ok _ _ _ (.inr rfl) (.inr rfl) (.inl rfl)))
   ·clear h
    cbv
    refine ⟨λh=>?_,λh=>?_⟩
    ·clear h
     cbv
     refine ⟨⟨by decide⟩,?_⟩
     cbv
     exact fW 5 (wI ⟨ins,gs,outs,dr⟩ ⟨K,A,B,0,N⟩) (by have bE:=hF.k;have fO:=hF.a;have iQ:=hF.b;have jG:=hF.c;have jH:=hF.n;exact a8) (by have bE:=hF.k;have fO:=hF.a;have iQ:=hF.b;have jG:=hF.c;have jH:=hF.n;exact a8) (tail _ (hF.ok _ _ _ (.inr rfl) (.inl rfl) (.inr rfl)))
    ·clear h
     cbv
     exact fW 5 (wI ⟨ins,gs,outs,dr⟩ ⟨K,A,B,0,0⟩) (by have bE:=hF.k;have fO:=hF.a;have iQ:=hF.b;have jG:=hF.c;have jH:=hF.n;exact a8) (by have bE:=hF.k;have fO:=hF.a;have iQ:=hF.b;have jG:=hF.c;have jH:=hF.n;exact a8) (tail _ (hF.ok _ _ _ (.inr rfl) (.inl rfl) (.inl rfl)))
  ·clear h
   cbv
   refine ⟨λh=>?_,λh=>?_⟩
   ·clear h
    cbv
    refine ⟨⟨hF.v7⟩,?_⟩
    cbv
    refine ⟨λh=>?_,λh=>?_⟩
    ·clear h
     cbv
     refine ⟨⟨by decide⟩,?_⟩
     cbv
     exact fW 5 (wI ⟨ins,gs,outs,dr⟩ ⟨K,A,0,C,N⟩) (by have bE:=hF.k;have fO:=hF.a;have iQ:=hF.b;have jG:=hF.c;have jH:=hF.n;exact a8) (by have bE:=hF.k;have fO:=hF.a;have iQ:=hF.b;have jG:=hF.c;have jH:=hF.n;exact a8) (tail _ (hF.ok _ _ _ (.inl rfl) (.inr rfl) (.inr rfl)))
    ·clear h
     cbv
     exact fW 5 (wI ⟨ins,gs,outs,dr⟩ ⟨K,A,0,C,0⟩) (by have bE:=hF.k;have fO:=hF.a;have iQ:=hF.b;have jG:=hF.c;have jH:=hF.n;exact a8) (by have bE:=hF.k;have fO:=hF.a;have iQ:=hF.b;have jG:=hF.c;have jH:=hF.n;exact a8) (tail _ (hF.ok _ _ _ (.inl rfl) (.inr rfl) (.inl rfl)))
   ·clear h
    cbv
    refine ⟨λh=>?_,λh=>?_⟩
    ·clear h
     cbv
     refine ⟨⟨by decide⟩,?_⟩
     cbv
     exact fW 5 (wI ⟨ins,gs,outs,dr⟩ ⟨K,A,0,0,N⟩) (by have bE:=hF.k;have fO:=hF.a;have iQ:=hF.b;have jG:=hF.c;have jH:=hF.n;exact a8) (by have bE:=hF.k;have fO:=hF.a;have iQ:=hF.b;have jG:=hF.c;have jH:=hF.n;exact a8) (tail _ (hF.ok _ _ _ (.inl rfl) (.inl rfl) (.inr rfl)))
    ·clear h
     cbv
     exact fW 5 (wI ⟨ins,gs,outs,dr⟩ ⟨K,A,0,0,0⟩) (by have bE:=hF.k;have fO:=hF.a;have iQ:=hF.b;have jG:=hF.c;have jH:=hF.n;exact a8) (by have bE:=hF.k;have fO:=hF.a;have iQ:=hF.b;have jG:=hF.c;have jH:=hF.n;exact a8) (tail _ (hF.ok _ _ _ (.inl rfl) (.inl rfl) (.inl rfl)))
 ·intro y
  refine y.casesOn λyo ya yb yc yn hy=>?_
  have IF:=IF ⟨yo,ya,yb,yc,yn⟩ hy
  refine IF.elim λm hm=>?_
  revert hm
  refine m.casesOn λmn mc md hm=>?_
  refine hm.elim λc hm=>?_
  revert hm
  refine c.casesOn λR V hm=>?_
  refine hm.elim λe hm=>?_
  have su:=hm.1
  refine hm.2.elim λm' hm=>?_
  revert hm
  refine m'.casesOn λZ7 Z8 Z9 hm=>?_
  refine hm.elim λc' hm=>?_
  revert hm
  refine c'.casesOn λR' V' hm=>?_
  refine hm.elim λe' hm=>?_
  have kY:=hm.1
  have tQ:=hm.2
  obtain ⟨G2,Qc⟩:∃G2,gs++[⟨yo,ya,yb,yc,yn⟩]=G2:=⟨_,rfl⟩
  rw [Qc] at kY
  rcases agc kY with he|he
  rotate_left
  ·have e1:=he.1
   subst e1
   refine Sat.iR (IE 0 0) ?_
   cbv
   refine ⟨gs,⟨by exact a7,b1,b2⟩,?_⟩
   cbv
   refine ⟨[⟨yo,ya,yb,yc,yn⟩],⟨by exact a7,b3,b4⟩,?_⟩
   cbv
   refine Sat.freeze 9 rfl rfl ?_
   cbv
   refine Sat.iR (IE 0 0) ?_
   cbv
   refine ⟨⟨⟨ins,gs,outs,dr⟩,⟨mn,mc,md⟩,⟨R,V⟩,e⟩,⟨by exact a7,su⟩,?_⟩
   cbv
   refine ⟨⟨⟨ins,G2,outs,dr⟩,⟨Z7,Z8,Z9⟩,⟨R',V'⟩,2⟩,⟨by have iz:=Qc;exact bJ,kY⟩,?_⟩
   cbv
   refine ⟨λh=>?_,λh=>?_⟩
   rotate_left
   ·have h':(2:Int)=0:=aL
    cases (show False by omega)
   clear h
   cbv
   refine ⟨λh=>?_,λh=>?_⟩
   rotate_left
   ·have h':¬(2:Int)=2:=aL
    cases (show False from h' rfl)
   clear h
   cbv
   exact ⟨by exact a7⟩
  ·have hq:=tQ he
   have e2:(⟨Z7,Z8,Z9⟩:ec)=⟨mn,mc,md⟩:=hq.2.1
   have e3:(⟨R',V'⟩:kp)=⟨R,V⟩:=hq.2.2
   have e1:=hq.1
   clear hq tQ hm IF
   cases e2
   cases e3
   subst he
   subst e1
   have O:=Ow su
   have nk:Je ⟨⟨mn,mc,md⟩,⟨R,V⟩,0⟩ ⟨⟨mn,mc,md⟩,⟨R,V⟩,0⟩ true:=⟨O.jt,O.jt,by simp⟩
   refine Sat.iR (IE 0 0) ?_
   cbv
   refine ⟨gs,⟨by exact a7,b1,b2⟩,?_⟩
   cbv
   refine ⟨[⟨yo,ya,yb,yc,yn⟩],⟨by exact a7,b3,b4⟩,?_⟩
   cbv
   refine Sat.freeze 9 rfl rfl ?_
   cbv
   refine Sat.iR (IE 0 0) ?_
   cbv
   refine ⟨⟨⟨ins,gs,outs,dr⟩,⟨mn,mc,md⟩,⟨R,V⟩,0⟩,⟨by exact a7,su⟩,?_⟩
   cbv
   refine ⟨⟨⟨ins,G2,outs,dr⟩,⟨mn,mc,md⟩,⟨R,V⟩,0⟩,⟨by have iz:=Qc;exact bJ,kY⟩,?_⟩
   cbv
   refine ⟨λh=>?_,λh=>?_⟩
   ·have h':¬(0:Int)=0:=aL
    cases (show False from h' rfl)
   clear h
   cbv
   refine ⟨λh=>?_,λh=>?_⟩
   rotate_left
   ·have h':¬(0:Int)=0:=aL
    cases (show False from h' rfl)
   clear h
   cbv
   refine ⟨⟨⟨⟨mn,mc,md⟩,⟨R,V⟩,0⟩,⟨⟨mn,mc,md⟩,⟨R,V⟩,0⟩,true⟩,⟨by exact a7,nk⟩,?_⟩
   cbv
   refine ⟨λh=>?_,λh=>?_⟩
   rotate_left
   ·have h:=h.out
    cases (show False by simp at h)
   clear h
   cbv
   exact ⟨by exact a7⟩
end Go.Proofs.Pk
