import Derived.Test.YthnhbemmlfaihaaR13
import Derived.Test.YthnhbemmlfaihaaR34
set_option linter.unusedVariables false
set_option linter.unusedSimpArgs false
set_option maxRecDepth 10000
set_option maxHeartbeats 64000000
namespace Go.Proofs.Pk
open Go Go.Vc
structure KJ where
 a:Int
 b:Int
 c:Int
def Pc (x:KJ):List SV:=[.i .u8 λ_=>x.a,.i .u8 λ_=>x.b,.i .u8 λ_=>x.c]
theorem Vv (x:KJ):bX (Pc x):=⟨trivial,trivial,trivial,trivial⟩
structure Xo where
 z:pc
 k:KJ
 d:Int
structure Oa (x:Xo):Prop where
 gy:we x.z
 rl:x.z.c.root.length=x.z.m.cells.length
 ll:x.z.c.leaves.length=x.z.m.cells.length
 k:byte x.k.a/\byte x.k.b/\byte x.k.c
@[reducible] noncomputable def akP:oV where
 α:=Xo
 args x:=[.agg (FL x.z),.agg (Pc x.k),.i .i64 (λ_=>x.d)]
 pre x:=Oa x
 β:=pc
 post x y:=uP x.z y
 res x y:=.agg (FL y)
def w9 (n:Int) (mc:List Cell) (md R:List Int) (V:List (List Int)) (ix:Int) (x:Cell):Vc.St :=
 ⟨[.any,.any,.any,.any,.any,.any,.ptr 2 0,.ptr 3 0,.ptr 4 0,.i .i64 (λ_=>ix),.ptr 13 0]++qZ 172,
  [.dead,.dead,.fix 44 (qZ 6),.fix 38 [.i .i64 (λ_=>n),.own 6,.own 8],.fix 41 [.own 10,.own 12],.dead,.dyn 57 3 lK (λ_=>mc),.dead,.dyn 3 1 bK (λ_=>md),.dead,.dyn 3 1 bK (λ_=>R),.dead,.dyn 32 1 fP (λ_=>V),.fix 57 (lK x)]⟩
theorem GL {kb:Int} (h:byte kb) {n:Nat} (hn:0 < n):¬(n:Int)=0/\0<=(IntKind.i64.wrap kb).tmod (n:Int)/\((IntKind.i64.wrap kb).tmod (n:Int)).toNat < n:=by
 rw [JN h]
 have:=wv h.1 (show (0:Int) < n by omega)
 omega
noncomputable def akQ (n m:Nat):Ctx:=cT n m [] [] [] [] [29]
theorem ag1 (n m:Nat):CB PP (akQ n m):=cW n m trivial trivial
noncomputable def akR (n m:Nat):Ctx:=cT n m [] []
theorem ag2 (n m:Nat):CB PP (akR n m):=cW n m trivial trivial
theorem ag3:rq PP 10 akP:=by
 refine Nq (ag1 0 0) (fo Try.func10) (λa=>⟨Ih a.z,Vv a.k,trivial,trivial⟩) (λa y=>Ih y) ?_
 rintro ⟨⟨⟨mn,mc,md⟩,⟨R,V⟩,e⟩,⟨ka,kb,kc⟩,d⟩ hx
 obtain ⟨⟨⟨KK,QF,QG⟩,oG,qn⟩,Dq,kC,hka,QH,hkc⟩:Oa ⟨⟨⟨mn,mc,md⟩,⟨R,V⟩,e⟩,⟨ka,kb,kc⟩,d⟩:=hx
 have KK:mc.length<=1000000:=KK
 have QG:md.length<=1000000:=QG
 have Dq:R.length=mc.length:=Dq
 have kC:V.length=mc.length:=kC
 have a1:(([]:List Cell).length+mc.length)*40<=140737488355328:=by show (0+mc.length)*40<=_;omega
 have a2:([]:List Cell).length+mc.length<=9223372036854775807:=by show 0+mc.length<=_;omega
 have a3:(([]:List Int).length+md.length)*8<=140737488355328:=by show (0+md.length)*8<=_;omega
 have a4:([]:List Int).length+md.length<=9223372036854775807:=by show 0+md.length<=_;omega
 have a5:(([]:List Int).length+R.length)*8<=140737488355328:=by show (0+R.length)*8<=_;omega
 have a6:([]:List Int).length+R.length<=9223372036854775807:=by show 0+R.length<=_;omega
 have a7:(([]:List (List Int)).length+V.length)*24<=140737488355328:=by show (0+V.length)*24<=_;omega
 have a8:([]:List (List Int)).length+V.length<=9223372036854775807:=by show 0+V.length<=_;omega
 have gy:∀n' Du mU R' V',Cn ⟨n',Du,mU⟩->R'.length<=1000000000000->(V'.length<=1000000/\∀l∈V',l.length<=1000000)->we ⟨⟨n',Du,mU⟩,⟨R',V'⟩,0⟩:=λ_ _ _ _ _ h1 h2 h3=>⟨h1,h2,h3⟩
 have JP:∀(mU:List Int),mU.length=md.length->uP ⟨⟨mn,mc,md⟩,⟨R,V⟩,e⟩ ⟨⟨mn,mc,mU⟩,⟨R,V⟩,0⟩:=λmU h=>⟨rfl,.inl rfl,gy _ _ _ _ _ ⟨KK,QF,by show mU.length<=1000000;omega⟩ oG qn⟩
 refine ⟨?_⟩
 cbv
 refine ⟨mc,⟨by exact aY,a1,a2⟩,?_⟩
 cbv
 refine ⟨md,⟨by exact aY,a3,a4⟩,?_⟩
 cbv
 refine ⟨R,⟨by exact aY,a5,a6⟩,?_⟩
 cbv
 refine ⟨V,⟨by exact aY,a7,a8⟩,?_⟩
 cbv
 refine ⟨λh=>?_,λh=>?_⟩
 ·clear h
  cbv
  refine ⟨λh=>?_,λh=>?_⟩
  ·have kL:0 < md.length:=aJ
   obtain ⟨t0,t1,t2⟩:=GL QH kL
   refine (cy t2).elim λv hv=>?_
   refine (⟨_,rfl⟩:∃mU,md.set ((IntKind.i64.wrap kb).tmod (md.length:Int)).toNat (IntKind.i64.wrap (v+d))=mU).elim λmU A5=>?_
   have hlen:mU.length=md.length:=by rw [<-A5,pZ]
   have bV:=JP mU hlen
   clear h
   cbv
   refine ⟨⟨t0⟩,?_⟩
   cbv
   refine ⟨⟨t1,t2⟩,?_⟩
   cbv
   refine ⟨v,⟨hv,rfl⟩,?_⟩
   cbv
   refine ⟨⟨t1,t2⟩,?_⟩
   cbv
   refine ⟨(v,IntKind.i64.wrap (v+d)),⟨hv,rfl,by exact fj⟩,?_⟩
   cbv
   exact .mk' ⟨⟨mn,mc,mU⟩,⟨R,V⟩,0⟩ ⟨by have gM:=A5;exact bN⟩ bV
  ·have bV:=JP md rfl
   clear h
   cbv
   exact .mk' ⟨⟨mn,mc,md⟩,⟨R,V⟩,0⟩ ⟨by exact aY⟩ bV
 have GA:¬(mc.length:Int)=0:=aJ
 clear h
 cbv
 refine ⟨⟨by decide⟩,λh=>?_,λh=>?_⟩
 ·clear h
  cbv
  refine ⟨λh=>?_,λh=>?_⟩
  ·have kL:0 < md.length:=aJ
   obtain ⟨t0,t1,t2⟩:=GL QH kL
   refine (cy t2).elim λv hv=>?_
   refine (⟨_,rfl⟩:∃mU,md.set ((IntKind.i64.wrap kb).tmod (md.length:Int)).toNat (IntKind.i64.wrap (v+d))=mU).elim λmU A5=>?_
   have hlen:mU.length=md.length:=by rw [<-A5,pZ]
   have bV:=JP mU hlen
   clear h
   cbv
   refine ⟨⟨t0⟩,?_⟩
   cbv
   refine ⟨⟨t1,t2⟩,?_⟩
   cbv
   refine ⟨v,⟨hv,rfl⟩,?_⟩
   cbv
   refine ⟨⟨t1,t2⟩,?_⟩
   cbv
   refine ⟨(v,IntKind.i64.wrap (v+d)),⟨hv,rfl,by exact fj⟩,?_⟩
   cbv
   exact .mk' ⟨⟨mn,mc,mU⟩,⟨R,V⟩,0⟩ ⟨by have gM:=A5;exact bN⟩ bV
  ·have bV:=JP md rfl
   clear h
   cbv
   exact .mk' ⟨⟨mn,mc,md⟩,⟨R,V⟩,0⟩ ⟨by exact aY⟩ bV
 have Qx:0 < mc.length:=by exact sP
 obtain ⟨t0,t1,t2⟩:=GL QH Qx
 refine (cy t2).elim λx=>?_
 refine x.casesOn λxi xt xr hx=>?_
 have nL:xi.length<=1000000:=QF _ (cN hx)
 refine (⟨_,rfl⟩:∃ix,(IntKind.i64.wrap kb).tmod (mc.length:Int)=ix).elim λix iA=>?_
 have t1':0<=ix:=by rw [<-iA];exact t1
 have QI:ix.toNat < mc.length:=by rw [<-iA];exact t2
 have jy:mc[ix.toNat]?=some ⟨xi,xt,xr⟩:=by rw [<-iA];exact hx
 have uR:mc.set ix.toNat ⟨xi,xt,xr⟩=mc:=by
  obtain ⟨a,b⟩:=bh.1 jy
  rw [<-b];exact List.set_getElem_self a
 have Pd:∀n' (x':Cell),x'.ins.length<=1000000->Cn ⟨n',mc.set ix.toNat x',md⟩:=λn' x' h=>⟨by show (mc.set ix.toNat x').length<=_;rw [pZ];exact KK,λc hc=>by
  rcases Er hc with hc|rfl
  ·exact QF c hc
  ·exact h,QG⟩
 have AA:∀n' (x':Cell),x'.ins.length<=1000000->uP ⟨⟨mn,mc,md⟩,⟨R,V⟩,e⟩ ⟨⟨n',mc.set ix.toNat x',md⟩,⟨R,V⟩,0⟩:=λn' x' h=>⟨rfl,.inl rfl,gy _ _ _ _ _ (Pd n' x' h) oG qn⟩
 have akS:∀r,uP ⟨⟨mn,mc,md⟩,⟨R,V⟩,e⟩ ⟨⟨mn,mc.set ix.toNat ⟨xi,xt,xr⟩,md⟩,⟨R.set ix.toNat r,V⟩,0⟩:=λr=>⟨rfl,.inr (.inr ⟨by rw [uR],rfl,ix.toNat,r,rfl⟩),gy _ _ _ _ _ (Pd _ _ nL) (by rw [pZ];exact oG) qn⟩
 have YC:∀l:List Int,l.length<=1000000->uP ⟨⟨mn,mc,md⟩,⟨R,V⟩,e⟩ ⟨⟨mn,mc.set ix.toNat ⟨xi,xt,xr⟩,md⟩,⟨R,V.set ix.toNat l⟩,0⟩:=λl h=>⟨rfl,.inr (.inl ⟨by rw [uR],rfl⟩),gy _ _ _ _ _ (Pd _ _ nL) oG ⟨by rw [pZ];exact qn.1,λk hk=>by
  rcases Er hk with hk|rfl
  ·exact qn.2 k hk
  ·exact h⟩⟩
 clear h
 cbv
 refine ⟨⟨t0⟩,?_⟩
 cbv
 refine ⟨⟨t1,t2⟩,?_⟩
 cbv
 refine ⟨⟨xi,xt,xr⟩,⟨hx,rfl⟩,?_⟩
 cbv
 apply xN (λc k=>∀(n':Int) (x':Cell) (R':List Int) (V':List (List Int)),uP ⟨⟨mn,mc,md⟩,⟨R,V⟩,e⟩ ⟨⟨n',mc.set ix.toNat x',md⟩,⟨R',V'⟩,0⟩->Sat [] false PP c (w9 n' mc md R' V' ix x') k)
 ·intro tail
  refine ⟨⟨by decide⟩,λh=>?_,λh=>?_⟩
  ·clear h
   refine (⟨_,rfl⟩:∃T,IntKind.i64.wrap (xt+d)=T).elim λT hT=>?_
   have bV:=AA mn ⟨xi,T,xr⟩ nL
   cbv
   exact ga 14 (w9 mn mc md R V ix ⟨xi,T,xr⟩) (by have bI:=iA;have iK:=hT;exact bp) (by have bI:=iA;have iK:=hT;exact bp) (tail _ _ _ _ bV)
  clear h
  cbv
  refine ⟨λh=>?_,λh=>?_⟩
  ·clear h
   refine (⟨_,rfl⟩:∃T,IntKind.i64.wrap (xr+d)=T).elim λT hT=>?_
   have bV:=AA mn ⟨xi,xt,T⟩ nL
   cbv
   exact ga 14 (w9 mn mc md R V ix ⟨xi,xt,T⟩) (by have bI:=iA;have iK:=hT;exact bp) (by have bI:=iA;have iK:=hT;exact bp) (tail _ _ _ _ bV)
  clear h
  cbv
  refine ⟨λh=>?_,λh=>?_⟩
  ·clear h
   cbv
   refine ⟨λh=>?_,λh=>?_⟩
   ·have kL:0 < xi.length:=aJ
    obtain ⟨u0,u1,u2⟩:=GL hkc kL
    refine (cy u2).elim λv hv=>?_
    refine (⟨_,rfl⟩:∃GM,xi.set ((IntKind.i64.wrap kc).tmod (xi.length:Int)).toNat (IntKind.i64.wrap (v+d))=GM).elim λGM AQ=>?_
    have bV:=AA mn ⟨GM,xt,xr⟩ (by show GM.length<=_;rw [<-AQ,pZ];exact nL)
    have q1:(([]:List Int).length+xi.length)*8<=140737488355328:=by show (0+xi.length)*8<=_;omega
    have q2:([]:List Int).length+xi.length<=9223372036854775807:=by show 0+xi.length<=_;omega
    clear h
    cbv
    refine ⟨xi,⟨by exact aY,q1,q2⟩,?_⟩
    cbv
    refine ⟨⟨u0⟩,?_⟩
    cbv
    refine ⟨⟨u1,u2⟩,?_⟩
    cbv
    refine ⟨v,⟨hv,rfl⟩,?_⟩
    cbv
    refine ⟨⟨u1,u2⟩,?_⟩
    cbv
    refine ⟨(v,IntKind.i64.wrap (v+d)),⟨hv,rfl,by exact fj⟩,?_⟩
    cbv
    refine Sat.freeze 15 rfl rfl ?_
    cbv
    exact ga 14 (w9 mn mc md R V ix ⟨GM,xt,xr⟩) (by have bI:=iA;have gM:=AQ;exact bp) (by have bI:=iA;have gM:=AQ;exact bp) (tail _ _ _ _ bV)
   ·have bV:=AA mn ⟨xi,xt,xr⟩ nL
    clear h
    cbv
    exact ga 14 (w9 mn mc md R V ix ⟨xi,xt,xr⟩) (by have bI:=iA;exact bp) (by have bI:=iA;exact bp) (tail _ _ _ _ bV)
  clear h
  cbv
  refine ⟨λh=>?_,λh=>?_⟩
  ·have wY:ix.toNat < R.length:=by rw [Dq];exact QI
   refine (cy wY).elim λv hv=>?_
   refine (⟨_,rfl⟩:∃R',R.set ix.toNat (IntKind.i64.wrap (v+d))=R').elim λR' hR=>?_
   have bV:=akS (IntKind.i64.wrap (v+d))
   rw [hR] at bV
   rw [<-iA] at wY hv hR
   clear h
   cbv
   refine ⟨⟨t1,wY⟩,?_⟩
   cbv
   refine ⟨v,⟨hv,rfl⟩,?_⟩
   cbv
   refine ⟨⟨t1,wY⟩,?_⟩
   cbv
   refine ⟨(v,IntKind.i64.wrap (v+d)),⟨hv,rfl,by exact fj⟩,?_⟩
   cbv
   exact ga 14 (w9 mn mc md R' V ix ⟨xi,xt,xr⟩) (by have bI:=iA;have eu:=hR;exact bp) (by have bI:=iA;have eu:=hR;exact bp) (tail _ _ _ _ bV)
  clear h
  cbv
  refine ⟨λh=>?_,λh=>?_⟩
  ·have w8:ix.toNat < V.length:=by rw [kC];exact QI
   refine (cy w8).elim λl hl=>?_
   have Qv:=qn.2 l (cN hl)
   have ag4:V.set ix.toNat l=V:=by
    obtain ⟨a,b⟩:=bh.1 hl
    rw [<-b];exact List.set_getElem_self a
   have Xp:=YC l Qv
   rw [ag4] at Xp
   rw [<-iA] at w8 hl
   clear h
   cbv
   refine ⟨⟨t1,w8⟩,?_⟩
   cbv
   refine ⟨l,⟨hl,rfl⟩,?_⟩
   cbv
   refine ⟨λh=>?_,λh=>?_⟩
   ·have kL:0 < l.length:=aJ
    obtain ⟨u0,u1,u2⟩:=GL hkc kL
    refine (cy u2).elim λv hv=>?_
    refine (⟨_,rfl⟩:∃l',l.set ((IntKind.i64.wrap kc).tmod (l.length:Int)).toNat (IntKind.i64.wrap (v+d))=l').elim λl' iJ=>?_
    have bV:=YC l' (by rw [<-iJ,pZ];exact Qv)
    refine (⟨_,rfl⟩:∃V',V.set ix.toNat l'=V').elim λV' hV=>?_
    rw [hV] at bV
    rw [<-iA] at hV
    have q1:(([]:List Int).length+l.length)*8<=140737488355328:=by show (0+l.length)*8<=_;omega
    have q2:([]:List Int).length+l.length<=9223372036854775807:=by show 0+l.length<=_;omega
    clear h
    cbv
    refine ⟨⟨t1,w8⟩,?_⟩
    cbv
    refine ⟨l,⟨hl,rfl⟩,?_⟩
    cbv
    refine ⟨l,⟨by exact aY,q1,q2⟩,?_⟩
    cbv
    refine ⟨⟨t1,w8⟩,?_⟩
    cbv
    refine ⟨⟨w8⟩,?_⟩
    cbv
    refine ⟨⟨t1,w8⟩,?_⟩
    cbv
    refine ⟨⟨rfl⟩,?_⟩
    cbv
    refine ⟨⟨t1,w8⟩,?_⟩
    cbv
    refine ⟨⟨rfl⟩,?_⟩
    cbv
    refine ⟨⟨u0⟩,?_⟩
    cbv
    refine ⟨⟨u1,u2⟩,?_⟩
    cbv
    refine ⟨v,⟨hv,rfl⟩,?_⟩
    cbv
    refine ⟨⟨u1,u2⟩,?_⟩
    cbv
    refine ⟨(v,IntKind.i64.wrap (v+d)),⟨hv,rfl,by exact fj⟩,?_⟩
    cbv
    refine Sat.freeze 15 rfl rfl ?_
    cbv
    refine Sat.fill 12 rfl l' (.cons (.sl iJ) .nil) ?_
    cbv
    exact ga 14 (w9 mn mc md R V' ix ⟨xi,xt,xr⟩) (by have bI:=iA;have eu:=hV;exact bp) (by have bI:=iA;have eu:=hV;exact bp) (tail _ _ _ _ bV)
   ·clear h
    cbv
    exact ga 14 (w9 mn mc md R V ix ⟨xi,xt,xr⟩) (by have bI:=iA;exact bp) (by have bI:=iA;exact bp) (tail _ _ _ _ Xp)
  ·have bV:=AA (IntKind.i64.wrap (mn+d)) ⟨xi,xt,xr⟩ nL
   clear h
   refine (⟨_,rfl⟩:∃T,IntKind.i64.wrap (mn+d)=T).elim λT hT=>?_
   rw [hT] at bV
   cbv
   exact ga 14 (w9 T mc md R V ix ⟨xi,xt,xr⟩) (by have bI:=iA;have iK:=hT;exact bp) (by have bI:=iA;have iK:=hT;exact bp) (tail _ _ _ _ bV)
 ·intro n' x'
  refine x'.casesOn λyi yt yr=>?_
  intro R' V' bV
  refine (⟨_,rfl⟩:∃Du,mc.set ix.toNat ⟨yi,yt,yr⟩=Du).elim λDu GA=>?_
  rw [GA] at bV
  refine Sat.jN (ag2 0 0) ?_
  cbv
  refine ⟨⟨t1',QI⟩,?_⟩
  cbv
  refine ⟨(⟨xi,xt,xr⟩,⟨yi,yt,yr⟩),⟨jy,rfl,by exact fj⟩,?_⟩
  cbv
  exact .mk' ⟨⟨n',Du,md⟩,⟨R',V'⟩,0⟩ ⟨by have gM:=GA;exact bN⟩ bV
end Go.Proofs.Pk
